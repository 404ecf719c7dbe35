/- Cno Cnr in one text (a claim has at most 60 files). No condition but the stated bounds. -/
import Derived.Test.YtbihbhdaenhdoaaGreatFj9
import Derived.Test.YtbihbhdaenhdoaaGreatApi
import Derived.Test.YtbihbhdaenhdoaaGreatLow
import Derived.Deep.QuietTactic
import Derived.BigQuiet
import Derived.Deep.RegionHeld3
namespace Go.Proofs.YtbihbhdaenhdoaaGreat
set_option linter.unusedVariables false
set_option linter.unusedSimpArgs false
open Go.RowKit Go.Joins

/-- A list that is repeated. -/
def rpt (xs : List Int) : Nat → List Int
  | 0 => []
  | k + 1 => rpt xs k ++ xs
theorem rpt_len (xs : List Int) : ∀ k, (rpt xs k).length = k * xs.length
  | 0 => by simp [rpt]
  | k + 1 => by rw [rpt, List.length_append, rpt_len xs k, Nat.succ_mul]
theorem rpt_mem {xs : List Int} {y : Int} : ∀ {k}, y ∈ rpt xs k → y ∈ xs
  | 0, h => by simp [rpt] at h
  | k + 1, h => by
    rw [rpt, List.mem_append] at h
    rcases h with h | h
    · exact rpt_mem h
    · exact h
/-- k throws are repeated as the list. -/
def isRt (xs : List Int) (k : Nat) : Bool := decide (xs.length % k = 0 ∧ rpt (xs.take k) (xs.length / k) = xs)
def rtGo (xs : List Int) : Nat → Nat → Nat
  | 0, k => k
  | f + 1, k => if isRt xs k = true then k else rtGo xs f (k + 1)
/-- The length of the shortest list that is repeated. -/
def rtk (xs : List Int) : Nat := rtGo xs (xs.length - 1) 1
def rtl (xs : List Int) : List Int := xs.take (rtk xs)
theorem rtGo_bd (xs : List Int) : ∀ f k, k ≤ rtGo xs f k ∧ rtGo xs f k ≤ k + f
  | 0, k => ⟨Nat.le_refl _, Nat.le_refl _⟩
  | f + 1, k => by
    unfold rtGo
    split
    · omega
    · have := rtGo_bd xs f (k + 1); omega
theorem rtk_bd {xs : List Int} (h : 1 ≤ xs.length) : 1 ≤ rtk xs ∧ rtk xs ≤ xs.length := by
  have := rtGo_bd xs (xs.length - 1) 1
  unfold rtk
  omega
theorem rtl_len {xs : List Int} (h : 1 ≤ xs.length) : (rtl xs).length = rtk xs := by
  unfold rtl
  rw [List.length_take]
  have := rtk_bd h
  omega
theorem isRt_self {xs : List Int} (h : 1 ≤ xs.length) : isRt xs xs.length = true := by
  unfold isRt
  rw [decide_eq_true]
  refine ⟨Nat.mod_self _, ?_⟩
  rw [Nat.div_self (by omega), List.take_length]
  simp [rpt]
theorem rtGo_yes {xs : List Int} {k : Nat} (h : isRt xs k = true) : ∀ f, rtGo xs f k = k
  | 0 => rfl
  | f + 1 => if_pos h
theorem rtGo_no {xs : List Int} {k f : Nat} (h : isRt xs k = false) : rtGo xs (f + 1) k = rtGo xs f (k + 1) := if_neg (by rw [h]; simp)
/-- A list that begins later. -/
def rot (xs : List Int) (b : Nat) : List Int := (List.range xs.length).map fun (i : Nat) => thAt xs ((i : Int) + b)
theorem rot_len (xs : List Int) (b : Nat) : (rot xs b).length = xs.length := by simp [rot]
theorem rot_get {xs : List Int} (b : Nat) {k : Nat} (h : k < xs.length) : (rot xs b)[k]? = some (thAt xs ((k : Int) + b)) := by simp [rot, h]
theorem rot_succ {xs : List Int} (b : Nat) {k : Nat} (h : k < xs.length) : (rot xs b).take (k + 1) = (rot xs b).take k ++ [thAt xs ((k : Int) + b)] := by
  rw [List.take_add_one, rot_get b h]
  rfl
theorem thAt_small {xs : List Int} {k : Nat} (h : k < xs.length) : thAt xs (k : Int) = xs[k]?.getD 0 := by
  unfold thAt
  rw [Int.emod_eq_of_lt (by omega) (by omega), Int.toNat_natCast]
theorem rot_zero (xs : List Int) : rot xs 0 = xs := by
  apply List.ext_getElem?
  intro i
  by_cases h : i < xs.length
  · rw [rot_get 0 h, show ((i : Int) + (0 : Nat)) = (i : Int) by omega, thAt_small h, List.getElem?_eq_getElem h]
    rfl
  · rw [List.getElem?_eq_none (by rw [rot_len]; omega), List.getElem?_eq_none (by omega)]
theorem thAt_mem {xs : List Int} (h : 1 ≤ xs.length) (t : Int) : thAt xs t ∈ xs := by
  unfold thAt
  have e1 := Int.emod_nonneg t (show (xs.length : Int) ≠ 0 by omega)
  have e2 := Int.emod_lt_of_pos t (show 0 < (xs.length : Int) by omega)
  rw [List.getElem?_eq_getElem (by omega)]
  exact List.getElem_mem _
theorem rot_mem2 {xs : List Int} {b : Nat} {y : Int} (hy : y ∈ rot xs b) : y ∈ xs := by
  unfold rot at hy
  simp only [List.mem_map, List.mem_range] at hy
  obtain ⟨i, hi, rfl⟩ := hy
  exact thAt_mem (by omega) _
/-- The order of lists of equal lengths. -/
def cmpL : List Int → List Int → Int
  | x :: xs, y :: ys => if x < y then -1 else if y < x then 1 else cmpL xs ys
  | _, _ => 0
theorem cmpL_self : ∀ xs : List Int, cmpL xs xs = 0
  | [] => rfl
  | x :: xs => by unfold cmpL; rw [if_neg (by omega), if_neg (by omega)]; exact cmpL_self xs
theorem drop_at {xs : List Int} {k : Nat} (h : k < xs.length) : xs.drop k = (xs[k]?.getD 0) :: xs.drop (k + 1) := by
  rw [List.drop_eq_getElem_cons h, List.getElem?_eq_getElem h]
  rfl
theorem cmpL_bd : ∀ xs ys : List Int, -1 ≤ cmpL xs ys ∧ cmpL xs ys ≤ 1
  | [], _ => by simp [cmpL]
  | _ :: _, [] => by simp [cmpL]
  | x :: xs, y :: ys => by
    unfold cmpL
    have := cmpL_bd xs ys
    split
    · omega
    · split <;> omega
/-- The greatest of a list and its rotations by less than k. -/
def bst (r : List Int) : Nat → List Int
  | 0 => r
  | k + 1 => if 0 < cmpL (rot r k) (bst r k) then rot r k else bst r k
theorem bst_len (r : List Int) : ∀ k, (bst r k).length = r.length
  | 0 => rfl
  | k + 1 => by
    unfold bst
    split
    · exact rot_len _ _
    · exact bst_len r k
theorem bst_one (r : List Int) : bst r 1 = r := by
  show (if 0 < cmpL (rot r 0) r then rot r 0 else r) = r
  rw [rot_zero, cmpL_self]
  rfl
theorem bst_mem {r : List Int} {y : Int} : ∀ {k}, y ∈ bst r k → y ∈ r
  | 0, h => h
  | k + 1, h => by
    unfold bst at h
    split at h
    · exact rot_mem2 h
    · exact bst_mem h
def can (xs : List Int) : List Int := bst (rtl xs) (rtl xs).length
theorem can_len {xs : List Int} (h : 1 ≤ xs.length) : (can xs).length = rtk xs := by
  unfold can
  rw [bst_len, rtl_len h]
theorem can_mem {xs : List Int} {y : Int} (h : y ∈ can xs) : y ∈ xs := List.mem_of_mem_take (bst_mem h)
/-- A slice of numbers is handed back that lies in new memory. -/
def RetO (w : World) (ys : List Int) (e : Ending) (w' : World) : Prop :=
  ∃ A c, e = .returned (.slice A ys.length c) ∧ OwnR 2 1 w w' (.slice A ys.length c) ys.length ys
theorem OwnR.ints {w w' : World} {A : Option Addr} {n c : Nat} {xs : List Int} (h : OwnR 2 1 w w' (.slice A n c) n xs) (hn : n ≤ 9223372036854775807) (hb : ∀ x ∈ xs, -9223372036854775808 ≤ x ∧ x ≤ 9223372036854775807) : Ints w' A n xs := Ints.of_own h.own hn hb
theorem qt3 (w : World) (a b c : Nat) : Qt w (((w.drewN a).drewN b).drewN c) := ⟨_, by rw [World.drewN_drewN, World.drewN_drewN]⟩
set_option maxHeartbeats 1000000 in
theorem repeated_any (A : Option Addr) (n c : Nat) (xs : List Int) (b : Nat) (w : World) (hI : Ints w A n xs) (hb : b * n ≤ 1000) (hb2 : b ≤ 1000) :
    Calls Tryz.prog 63 #[.slice A n c, .int .i64 (b : Int)] w (RetO w (rpt xs b)) := by
  have hxl := Lib.hid hI.len
  have hE := Lib.hid (ownR_empty (Ext.refl w) 2 1)
  have HT0 : Hid (∀ (wr : World) (v : Value), OwnR 2 1 w wr v (rpt xs b).length (rpt xs b) → RetO w (rpt xs b) (.returned v) wr) := fun wr v h1 => by
    obtain ⟨A1, c1, rfl⟩ := h1.forms
    exact ⟨A1, c1, rfl, h1⟩
  go_enter Tryz.func63, Tryz.ntmps63
  go_wp2
  go_loopw [5, 8] (fun v i wr => ∃ k : Nat, k ≤ b ∧ i = .int .i64 k ∧ OwnR 2 1 w wr v (rpt xs k).length (rpt xs k)) (fun _ i _ => b - (intOf i).toNat)
  case atStart => exact ⟨0, Nat.zero_le _, rfl, hE.out⟩
  case round =>
    obtain ⟨k, hk, rfl, hO⟩ := hrel
    have HO := Lib.hid hO
    clear hO
    by_cases hlt : k < b
    · have i1 : (k : Int) < b := by omega
      have hle : (rpt xs k).length + n ≤ 1000000 := by
        have h1 : (k + 1) * n ≤ b * n := Nat.mul_le_mul_right _ (by omega)
        rw [rpt_len, hxl.out]
        rw [Nat.succ_mul] at h1
        omega
      have hx0 := HO.out.ext.size
      go_wp2_with (at_builtin; refine appI rfl _ _ rfl rfl HO.out.own (by omega) rfl (hI.ext HO.out.ext) hle ?_; intro v' w3 ho' hg' hat')
      have HO3 : Hid (OwnR 2 1 w w3 v' (rpt xs (k + 1)).length (rpt xs (k + 1))) := by
        have e : (rpt xs (k + 1)).length = (rpt xs k).length + n := by show (rpt xs k ++ xs).length = _; rw [List.length_append, hxl.out]
        refine ⟨?_, HO.out.ext.grown hg' (fun x hx => (World.ownsRow.lt HO.out.own x hx).1)⟩
        rw [e]
        exact ho'
      clear ho' hg' hat' hle
      go_wp2
      go_roundw
      case rel => exact ⟨k + 1, by omega, by go_num, HO3.out⟩
      case measure => simp [intOf]; omega
    · obtain rfl : k = b := by omega
      go_wp2
      go_ret
      exact HT0.out _ _ HO.out
end Go.Proofs.YtbihbhdaenhdoaaGreat

namespace Go.Proofs.YtbihbhdaenhdoaaGreat
set_option linter.unusedVariables false
set_option linter.unusedSimpArgs false
open Go.RowKit Go.Joins

/-- A slice of numbers is handed back. -/
def RetI (w : World) (ys : List Int) (e : Ending) (w' : World) : Prop :=
  ∃ A c, e = .returned (.slice A ys.length c) ∧ Ext w w' ∧ Ints w' A ys.length ys
theorem RetO.root {w w1 w2 : World} {xs : List Int} {k : Nat} {A : Option Addr} {c : Nat} (h : rtl xs = xs.take k) (hl : (xs.take k).length = k) (hx : Ext w w1) (ho : OwnR 2 1 w1 w2 (.slice A k c) k (xs.take k)) : RetO w (rtl xs) (.returned (.slice A k c)) w2 := by
  rw [h]
  exact ⟨A, c, by rw [hl], by rw [hl]; exact ho.rebase hx⟩
theorem rtk_is {xs : List Int} {k f : Nat} (h : isRt xs k = true) (e : rtGo xs f k = rtk xs) : rtl xs = xs.take k := by
  unfold rtl
  rw [← e, rtGo_yes h]
set_option maxHeartbeats 400000 in
theorem l00SameN_any (A B : Option Addr) (n m c d : Nat) (xs ys : List Int) (w : World) (hI : Ints w A n xs) (hJ : Ints w B m ys) :
    Calls Tryz.prog 43 #[.slice A n c, .slice B m d] w fun e w' => e = .returned (.bool (decide (xs = ys))) ∧ Qt w w' := by
  have hs := hI.small
  have hs2 := hJ.small
  by_cases hnm : n = m
  · subst hnm
    have HE := Lib.hid (fun (h : ∀ i, i < n → xs[i]?.getD 0 = ys[i]?.getD 0) => ints_eq hI hJ.len h)
    go_enter Tryz.func43, Tryz.ntmps43
    go_wp2
    go_loopw [5] (fun i wr => ∃ k : Nat, k ≤ n ∧ i = .int .i64 k ∧ Qt w wr ∧ ∀ j, j < k → xs[j]?.getD 0 = ys[j]?.getD 0) (fun i _ => n - (intOf i).toNat)
    case atStart => exact ⟨0, Nat.zero_le _, rfl, Qt.refl _, fun j h => absurd h (by omega)⟩
    case round =>
      obtain ⟨k, hk, rfl, ⟨q, rfl⟩, hall⟩ := hrel
      have HA := Lib.hid hall
      clear hall
      by_cases hlt : k < n
      · obtain ⟨b, off, hA, hb, hcell⟩ := hI.at_ (by omega)
        obtain ⟨b2, off2, hB, hb2, hcell2⟩ := hJ.at_ (by omega)
        subst hA hB
        have c1 := hcell k hlt
        have c2 := hcell2 k hlt
        have i1 : (k : Int) < n := by omega
        clear hcell hcell2
        by_cases he : xs[k]?.getD 0 = ys[k]?.getD 0
        · have HA2 : Hid (∀ j, j < k + 1 → xs[j]?.getD 0 = ys[j]?.getD 0) := fun j hj => by
            by_cases e : j = k
            · rw [e]; exact he
            · exact HA.out j (by omega)
          rw [he] at c1
          clear he
          go_wp2
          go_quiet (fail)
          go_wp2
          go_roundw
          case rel => exact ⟨k + 1, by omega, by go_num, (by first | exact ⟨_, rfl⟩ | exact ⟨_, World.drewN_drewN _ _ _⟩), HA2.out⟩
          case measure => simp [intOf]; omega
        · have HR : Hid (decide (xs = ys) = false) := decide_eq_false (fun h => he (by rw [h]))
          have hne : (xs[k]?.getD 0 != ys[k]?.getD 0) = true := by simpa using he
          clear he
          generalize xs[k]?.getD 0 = u at *
          generalize ys[k]?.getD 0 = v at *
          go_wp2
          go_quiet (fail)
          go_wp2
          go_ret
          exact ⟨ret_bool HR.out.symm, (by first | exact ⟨_, rfl⟩ | exact ⟨_, World.drewN_drewN _ _ _⟩)⟩
      · have HR : Hid (decide (xs = ys) = true) := decide_eq_true (HE.out (fun i hi => HA.out i (by omega)))
        obtain rfl : k = n := by omega
        go_wp2
        go_ret
        exact ⟨ret_bool HR.out.symm, (by first | exact ⟨_, rfl⟩ | exact ⟨_, World.drewN_drewN _ _ _⟩)⟩
  · have HR : Hid (decide (xs = ys) = false) := decide_eq_false (fun h => hnm (by rw [← hI.len, ← hJ.len, h]))
    have h1 : ((n : Int) != m) = true := by simp; omega
    go_enter Tryz.func43, Tryz.ntmps43
    go_wp2
    go_ret
    exact ⟨ret_bool HR.out.symm, Qt.refl _⟩
theorem l00SameN_is (A B : Option Addr) (n m c d : Nat) (xs ys : List Int) (w : World) (hI : Ints w A n xs) (hJ : Ints w B m ys) (v : Bool) (hv : decide (xs = ys) = v) :
    Calls Tryz.prog 43 #[.slice A n c, .slice B m d] w fun e w' => e = .returned (.bool v) ∧ Qt w w' := by
  subst hv
  exact l00SameN_any A B n m c d xs ys w hI hJ
end Go.Proofs.YtbihbhdaenhdoaaGreat
