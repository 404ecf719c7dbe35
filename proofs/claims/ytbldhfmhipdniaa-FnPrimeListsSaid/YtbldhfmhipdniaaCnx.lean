/- Cno Cnr in one text (a claim has at most 60 files). No condition but the stated bounds. -/
import Derived.Test.YtbldhfmhipdniaaMea
import Derived.Test.YtbldhfmhipdniaaApi
import Derived.Test.YtbldhfmhipdniaaLow
import Derived.Deep.QuietTactic
import Derived.BigQuiet
import Derived.Deep.RegionHeld3
namespace Go.Proofs.Ytbldhfmhipdniaa
set_option linter.unusedVariables false
set_option linter.unusedSimpArgs false
open Go.RowKit Go.Joins

/-- A list that is repeated. -/
def rpt (xs : List Int) : Nat → List Int
  | 0 => []
  | k + 1 => rpt xs k ++ xs
theorem rpt_len (xs : List Int) : ∀ k, (rpt xs k).length = k * xs.length
  | 0 => by simp [rpt]
  | k + 1 => by rw [rpt, List.length_append, rpt_len xs k, Nat.succ_mul]
theorem rpt_mem {xs : List Int} {y : Int} : ∀ {k}, y ∈ rpt xs k → y ∈ xs
  | 0, h => by simp [rpt] at h
  | k + 1, h => by
    rw [rpt, List.mem_append] at h
    rcases h with h | h
    · exact rpt_mem h
    · exact h
/-- k throws are repeated as the list. -/
def isRt (xs : List Int) (k : Nat) : Bool := decide (xs.length % k = 0 ∧ rpt (xs.take k) (xs.length / k) = xs)
def rtGo (xs : List Int) : Nat → Nat → Nat
  | 0, k => k
  | f + 1, k => if isRt xs k = true then k else rtGo xs f (k + 1)
/-- The length of the shortest list that is repeated. -/
def rtk (xs : List Int) : Nat := rtGo xs (xs.length - 1) 1
def rtl (xs : List Int) : List Int := xs.take (rtk xs)
theorem rtGo_bd (xs : List Int) : ∀ f k, k ≤ rtGo xs f k ∧ rtGo xs f k ≤ k + f
  | 0, k => ⟨Nat.le_refl _, Nat.le_refl _⟩
  | f + 1, k => by
    unfold rtGo
    split
    · omega
    · have := rtGo_bd xs f (k + 1); omega
theorem rtk_bd {xs : List Int} (h : 1 ≤ xs.length) : 1 ≤ rtk xs ∧ rtk xs ≤ xs.length := by
  have := rtGo_bd xs (xs.length - 1) 1
  unfold rtk
  omega
theorem rtl_len {xs : List Int} (h : 1 ≤ xs.length) : (rtl xs).length = rtk xs := by
  unfold rtl
  rw [List.length_take]
  have := rtk_bd h
  omega
theorem isRt_self {xs : List Int} (h : 1 ≤ xs.length) : isRt xs xs.length = true := by
  unfold isRt
  rw [decide_eq_true]
  refine ⟨Nat.mod_self _, ?_⟩
  rw [Nat.div_self (by omega), List.take_length]
  simp [rpt]
theorem rtGo_yes {xs : List Int} {k : Nat} (h : isRt xs k = true) : ∀ f, rtGo xs f k = k
  | 0 => rfl
  | f + 1 => if_pos h
theorem rtGo_no {xs : List Int} {k f : Nat} (h : isRt xs k = false) : rtGo xs (f + 1) k = rtGo xs f (k + 1) := if_neg (by rw [h]; simp)
/-- A list that begins later. -/
def rot (xs : List Int) (b : Nat) : List Int := (List.range xs.length).map fun (i : Nat) => thAt xs ((i : Int) + b)
theorem rot_len (xs : List Int) (b : Nat) : (rot xs b).length = xs.length := by simp [rot]
theorem rot_get {xs : List Int} (b : Nat) {k : Nat} (h : k < xs.length) : (rot xs b)[k]? = some (thAt xs ((k : Int) + b)) := by simp [rot, h]
theorem rot_succ {xs : List Int} (b : Nat) {k : Nat} (h : k < xs.length) : (rot xs b).take (k + 1) = (rot xs b).take k ++ [thAt xs ((k : Int) + b)] := by
  rw [List.take_add_one, rot_get b h]
  rfl
theorem thAt_small {xs : List Int} {k : Nat} (h : k < xs.length) : thAt xs (k : Int) = xs[k]?.getD 0 := by
  unfold thAt
  rw [Int.emod_eq_of_lt (by omega) (by omega), Int.toNat_natCast]
theorem rot_zero (xs : List Int) : rot xs 0 = xs := by
  apply List.ext_getElem?
  intro i
  by_cases h : i < xs.length
  · rw [rot_get 0 h, show ((i : Int) + (0 : Nat)) = (i : Int) by omega, thAt_small h, List.getElem?_eq_getElem h]
    rfl
  · rw [List.getElem?_eq_none (by rw [rot_len]; omega), List.getElem?_eq_none (by omega)]
theorem thAt_mem {xs : List Int} (h : 1 ≤ xs.length) (t : Int) : thAt xs t ∈ xs := by
  unfold thAt
  have e1 := Int.emod_nonneg t (show (xs.length : Int) ≠ 0 by omega)
  have e2 := Int.emod_lt_of_pos t (show 0 < (xs.length : Int) by omega)
  rw [List.getElem?_eq_getElem (by omega)]
  exact List.getElem_mem _
theorem rot_mem2 {xs : List Int} {b : Nat} {y : Int} (hy : y ∈ rot xs b) : y ∈ xs := by
  unfold rot at hy
  simp only [List.mem_map, List.mem_range] at hy
  obtain ⟨i, hi, rfl⟩ := hy
  exact thAt_mem (by omega) _
/-- The order of lists of equal lengths. -/
def cmpL : List Int → List Int → Int
  | x :: xs, y :: ys => if x < y then -1 else if y < x then 1 else cmpL xs ys
  | _, _ => 0
theorem cmpL_self : ∀ xs : List Int, cmpL xs xs = 0
  | [] => rfl
  | x :: xs => by unfold cmpL; rw [if_neg (by omega), if_neg (by omega)]; exact cmpL_self xs
theorem drop_at {xs : List Int} {k : Nat} (h : k < xs.length) : xs.drop k = (xs[k]?.getD 0) :: xs.drop (k + 1) := by
  rw [List.drop_eq_getElem_cons h, List.getElem?_eq_getElem h]
  rfl
theorem cmpL_bd : ∀ xs ys : List Int, -1 ≤ cmpL xs ys ∧ cmpL xs ys ≤ 1
  | [], _ => by simp [cmpL]
  | _ :: _, [] => by simp [cmpL]
  | x :: xs, y :: ys => by
    unfold cmpL
    have := cmpL_bd xs ys
    split
    · omega
    · split <;> omega
/-- The greatest of a list and its rotations by less than k. -/
def bst (r : List Int) : Nat → List Int
  | 0 => r
  | k + 1 => if 0 < cmpL (rot r k) (bst r k) then rot r k else bst r k
theorem bst_len (r : List Int) : ∀ k, (bst r k).length = r.length
  | 0 => rfl
  | k + 1 => by
    unfold bst
    split
    · exact rot_len _ _
    · exact bst_len r k
theorem bst_one (r : List Int) : bst r 1 = r := by
  show (if 0 < cmpL (rot r 0) r then rot r 0 else r) = r
  rw [rot_zero, cmpL_self]
  rfl
theorem bst_mem {r : List Int} {y : Int} : ∀ {k}, y ∈ bst r k → y ∈ r
  | 0, h => h
  | k + 1, h => by
    unfold bst at h
    split at h
    · exact rot_mem2 h
    · exact bst_mem h
def can (xs : List Int) : List Int := bst (rtl xs) (rtl xs).length
theorem can_len {xs : List Int} (h : 1 ≤ xs.length) : (can xs).length = rtk xs := by
  unfold can
  rw [bst_len, rtl_len h]
theorem can_mem {xs : List Int} {y : Int} (h : y ∈ can xs) : y ∈ xs := List.mem_of_mem_take (bst_mem h)
/-- A slice of numbers is handed back that lies in new memory. -/
def RetO (w : World) (ys : List Int) (e : Ending) (w' : World) : Prop :=
  ∃ A c, e = .returned (.slice A ys.length c) ∧ OwnR 2 1 w w' (.slice A ys.length c) ys.length ys
theorem OwnR.ints {w w' : World} {A : Option Addr} {n c : Nat} {xs : List Int} (h : OwnR 2 1 w w' (.slice A n c) n xs) (hn : n ≤ 9223372036854775807) (hb : ∀ x ∈ xs, -9223372036854775808 ≤ x ∧ x ≤ 9223372036854775807) : Ints w' A n xs := Ints.of_own h.own hn hb
theorem qt3 (w : World) (a b c : Nat) : Qt w (((w.drewN a).drewN b).drewN c) := ⟨_, by rw [World.drewN_drewN, World.drewN_drewN]⟩
theorem l02At_n (A : Option Addr) (n c : Nat) (xs : List Int) (t : Int) (w : World) (hI : Ints w A n xs) (hn : 1 ≤ n ∧ n ≤ 1000) :
    Calls Try.prog 67 #[.slice A n c, .int .i64 t] w fun e w' => e = .returned (.int .i64 (thAt xs t)) ∧ w = w' := by
  have e1 := Int.emod_nonneg t (show (n : Int) ≠ 0 by omega)
  have e2 := Int.emod_lt_of_pos t (show 0 < (n : Int) by omega)
  obtain ⟨j, hj⟩ : ∃ j : Nat, t % (n : Int) = j := ⟨_, (Int.toNat_of_nonneg e1).symm⟩
  rw [hj] at e2
  obtain ⟨b, off, hA, hb, hcell⟩ := hI.at_ (by omega)
  subst hA
  have hc := hcell j (by omega)
  have HR : Hid (xs[j]?.getD 0 = thAt xs t) := by show _ = _; unfold thAt; rw [hI.len, hj]; rfl
  have HJ := Lib.hid hj
  clear hcell hj e1
  go_enter Try.func67, Try.ntmps67
  go_wp2_with (first | (go_at_call 87; (with_reducible refine (l02Mod_is _ _ _ _ (by omega) (by omega) HJ.out).mono ?_); rintro e w' ⟨rfl, rfl⟩))
  go_ret
  exact ⟨ret_int HR.out, rfl⟩
theorem throwAt_n (A : Option Addr) (n c : Nat) (xs : List Int) (t : Int) (w : World) (hI : Ints w A n xs) (hn : 1 ≤ n ∧ n ≤ 1000) :
    Calls Try.prog 72 #[.slice A n c, .int .i64 t] w fun e w' => e = .returned (.int .i64 (thAt xs t)) ∧ w = w' := by
  have e1 := Int.emod_nonneg t (show (n : Int) ≠ 0 by omega)
  have e2 := Int.emod_lt_of_pos t (show 0 < (n : Int) by omega)
  obtain ⟨j, hj⟩ : ∃ j : Nat, t % (n : Int) = j := ⟨_, (Int.toNat_of_nonneg e1).symm⟩
  rw [hj] at e2
  obtain ⟨b, off, hA, hb, hcell⟩ := hI.at_ (by omega)
  subst hA
  have hc := hcell j (by omega)
  have HR : Hid (xs[j]?.getD 0 = thAt xs t) := by show _ = _; unfold thAt; rw [hI.len, hj]; rfl
  have HJ := Lib.hid hj
  clear hcell hj e1
  go_enter Try.func72, Try.ntmps72
  go_wp2_with (first | (go_at_call 56; (with_reducible refine (period_any _ _ _ _).mono ?_); rintro e w' ⟨rfl, rfl⟩) | (go_at_call 89; (with_reducible refine (modulo_is _ _ _ _ (by omega) (by omega) HJ.out).mono ?_); rintro e w' ⟨rfl, rfl⟩))
  go_ret
  exact ⟨ret_int HR.out, rfl⟩
set_option maxHeartbeats 1000000 in
theorem compareP_any (A B : Option Addr) (n c d : Nat) (xs ys : List Int) (w : World) (hI : Ints w A n xs) (hJ : Ints w B n ys) :
    Calls Try.prog 45 #[.slice A n c, .slice B n d] w fun e w' => e = .returned (.int .i64 (cmpL xs ys)) ∧ Qt w w' := by
  have hs := hI.small
  have hxl := Lib.hid hI.len
  have hyl := Lib.hid hJ.len
  go_enter Try.func45, Try.ntmps45
  go_wp2
  go_loopw [20] (fun i wr => ∃ k : Nat, k ≤ n ∧ i = .int .i64 k ∧ Qt w wr ∧ Hid (cmpL xs ys = cmpL (xs.drop k) (ys.drop k))) (fun i _ => n - (intOf i).toNat)
  case atStart => exact ⟨0, Nat.zero_le _, rfl, Qt.refl _, Lib.hid rfl⟩
  case round =>
    obtain ⟨k, hk, rfl, ⟨q, rfl⟩, HE⟩ := hrel
    by_cases hlt : k < n
    · obtain ⟨b, off, hA, hb, hcell⟩ := hI.at_ (by omega)
      obtain ⟨b2, off2, hB, hb2, hcell2⟩ := hJ.at_ (by omega)
      subst hA hB
      have c1 := hcell k hlt
      have c2 := hcell2 k hlt
      have i1 : (k : Int) < n := by omega
      have HD : Hid (cmpL xs ys = cmpL ((xs[k]?.getD 0) :: xs.drop (k + 1)) ((ys[k]?.getD 0) :: ys.drop (k + 1))) := by
        show _ = _
        rw [HE.out, drop_at (xs := xs) (k := k) (by rw [hxl.out]; exact hlt), drop_at (xs := ys) (k := k) (by rw [hyl.out]; exact hlt)]
      generalize xs[k]?.getD 0 = x at c1 HD
      generalize ys[k]?.getD 0 = y at c2 HD
      clear hcell hcell2 HE
      by_cases h1 : x < y
      · have HR : Hid (cmpL xs ys = -1) := by show _ = _; rw [HD.out]; exact if_pos h1
        have g1 : decide (x < y) = true := decide_eq_true h1
        clear HD h1
        go_wp2
        go_quiet (fail)
        go_wp2
        go_ret
        exact ⟨ret_int HR.out.symm, (by first | exact ⟨_, rfl⟩ | exact ⟨_, World.drewN_drewN _ _ _⟩ | exact qt3 _ _ _ _)⟩
      · have g1 : decide (x < y) = false := decide_eq_false h1
        by_cases h2 : y < x
        · have HR : Hid (cmpL xs ys = 1) := by show _ = _; rw [HD.out]; unfold cmpL; rw [if_neg h1, if_pos h2]
          have g2 : decide (y < x) = true := decide_eq_true h2
          clear HD h1 h2
          go_wp2
          go_quiet (fail)
          go_wp2
          go_quiet (fail)
          go_wp2
          go_ret
          exact ⟨ret_int HR.out.symm, (by first | exact ⟨_, rfl⟩ | exact ⟨_, World.drewN_drewN _ _ _⟩ | exact qt3 _ _ _ _)⟩
        · have HR : Hid (cmpL xs ys = cmpL (xs.drop (k + 1)) (ys.drop (k + 1))) := by show _ = _; rw [HD.out]; conv => (lhs; unfold cmpL); rw [if_neg h1, if_neg h2]
          have g2 : decide (y < x) = false := decide_eq_false h2
          clear HD h1 h2
          go_wp2
          go_quiet (fail)
          go_wp2
          go_quiet (fail)
          go_wp2
          go_roundw
          case rel => exact ⟨k + 1, by omega, by go_num, (by first | exact ⟨_, rfl⟩ | exact ⟨_, World.drewN_drewN _ _ _⟩ | exact qt3 _ _ _ _), HR⟩
          case measure => simp [intOf]; omega
    · obtain rfl : k = n := by omega
      have HR : Hid (cmpL xs ys = 0) := by
        show _ = _
        rw [HE.out, List.drop_of_length_le (by rw [hxl.out]; exact Nat.le_refl _)]
        rfl
      go_wp2
      go_ret
      exact ⟨ret_int HR.out.symm, (by first | exact ⟨_, rfl⟩ | exact ⟨_, World.drewN_drewN _ _ _⟩ | exact qt3 _ _ _ _)⟩
set_option maxHeartbeats 1000000 in
theorem l02Compare_any (A B : Option Addr) (n c d : Nat) (xs ys : List Int) (w : World) (hI : Ints w A n xs) (hJ : Ints w B n ys) :
    Calls Try.prog 30 #[.slice A n c, .slice B n d] w fun e w' => e = .returned (.int .i64 (cmpL xs ys)) ∧ Qt w w' := by
  have hs := hI.small
  have hxl := Lib.hid hI.len
  have hyl := Lib.hid hJ.len
  go_enter Try.func30, Try.ntmps30
  go_wp2
  go_loopw [5] (fun i wr => ∃ k : Nat, k ≤ n ∧ i = .int .i64 k ∧ Qt w wr ∧ Hid (cmpL xs ys = cmpL (xs.drop k) (ys.drop k))) (fun i _ => n - (intOf i).toNat)
  case atStart => exact ⟨0, Nat.zero_le _, rfl, Qt.refl _, Lib.hid rfl⟩
  case round =>
    obtain ⟨k, hk, rfl, ⟨q, rfl⟩, HE⟩ := hrel
    by_cases hlt : k < n
    · obtain ⟨b, off, hA, hb, hcell⟩ := hI.at_ (by omega)
      obtain ⟨b2, off2, hB, hb2, hcell2⟩ := hJ.at_ (by omega)
      subst hA hB
      have c1 := hcell k hlt
      have c2 := hcell2 k hlt
      have i1 : (k : Int) < n := by omega
      have HD : Hid (cmpL xs ys = cmpL ((xs[k]?.getD 0) :: xs.drop (k + 1)) ((ys[k]?.getD 0) :: ys.drop (k + 1))) := by
        show _ = _
        rw [HE.out, drop_at (xs := xs) (k := k) (by rw [hxl.out]; exact hlt), drop_at (xs := ys) (k := k) (by rw [hyl.out]; exact hlt)]
      generalize xs[k]?.getD 0 = x at c1 HD
      generalize ys[k]?.getD 0 = y at c2 HD
      clear hcell hcell2 HE
      by_cases h1 : x < y
      · have HR : Hid (cmpL xs ys = -1) := by show _ = _; rw [HD.out]; exact if_pos h1
        have g1 : decide (x < y) = true := decide_eq_true h1
        clear HD h1
        go_wp2
        go_quiet (fail)
        go_wp2
        go_ret
        exact ⟨ret_int HR.out.symm, (by first | exact ⟨_, rfl⟩ | exact ⟨_, World.drewN_drewN _ _ _⟩ | exact qt3 _ _ _ _)⟩
      · have g1 : decide (x < y) = false := decide_eq_false h1
        by_cases h2 : y < x
        · have HR : Hid (cmpL xs ys = 1) := by show _ = _; rw [HD.out]; unfold cmpL; rw [if_neg h1, if_pos h2]
          have g2 : decide (y < x) = true := decide_eq_true h2
          clear HD h1 h2
          go_wp2
          go_quiet (fail)
          go_wp2
          go_quiet (fail)
          go_wp2
          go_ret
          exact ⟨ret_int HR.out.symm, (by first | exact ⟨_, rfl⟩ | exact ⟨_, World.drewN_drewN _ _ _⟩ | exact qt3 _ _ _ _)⟩
        · have HR : Hid (cmpL xs ys = cmpL (xs.drop (k + 1)) (ys.drop (k + 1))) := by show _ = _; rw [HD.out]; conv => (lhs; unfold cmpL); rw [if_neg h1, if_neg h2]
          have g2 : decide (y < x) = false := decide_eq_false h2
          clear HD h1 h2
          go_wp2
          go_quiet (fail)
          go_wp2
          go_quiet (fail)
          go_wp2
          go_roundw
          case rel => exact ⟨k + 1, by omega, by go_num, (by first | exact ⟨_, rfl⟩ | exact ⟨_, World.drewN_drewN _ _ _⟩ | exact qt3 _ _ _ _), HR⟩
          case measure => simp [intOf]; omega
    · obtain rfl : k = n := by omega
      have HR : Hid (cmpL xs ys = 0) := by
        show _ = _
        rw [HE.out, List.drop_of_length_le (by rw [hxl.out]; exact Nat.le_refl _)]
        rfl
      go_wp2
      go_ret
      exact ⟨ret_int HR.out.symm, (by first | exact ⟨_, rfl⟩ | exact ⟨_, World.drewN_drewN _ _ _⟩ | exact qt3 _ _ _ _)⟩
set_option maxHeartbeats 1000000 in
theorem rotated_any (A : Option Addr) (n c : Nat) (xs : List Int) (b : Nat) (w : World) (hI : Ints w A n xs) (hn : 1 ≤ n ∧ n ≤ 1000) (hb : b ≤ 1000) :
    Calls Try.prog 57 #[.slice A n c, .int .i64 (b : Int)] w (RetO w (rot xs b)) := by
  have hxl := Lib.hid hI.len
  have hE := Lib.hid (ownR_empty (Ext.refl w) 2 1)
  have HT0 : Hid (∀ (wr : World) (v : Value), OwnR 2 1 w wr v n ((rot xs b).take n) → RetO w (rot xs b) (.returned v) wr) := fun wr v h1 => by
    rw [List.take_of_length_le (by rw [rot_len, hxl.out]; exact Nat.le_refl _)] at h1
    have h2 : (rot xs b).length = n := by rw [rot_len, hxl.out]
    obtain ⟨A1, c1, rfl⟩ := h1.forms
    exact ⟨A1, c1, by rw [h2], by rw [h2]; exact h1⟩
  go_enter Try.func57, Try.ntmps57
  go_wp2
  go_loopw [5, 10] (fun v i wr => ∃ k : Nat, k ≤ n ∧ i = .int .i64 k ∧ OwnR 2 1 w wr v k ((rot xs b).take k)) (fun _ i _ => n - (intOf i).toNat)
  case atStart => exact ⟨0, Nat.zero_le _, rfl, by simpa using hE.out⟩
  case round =>
    obtain ⟨k, hk, rfl, hO⟩ := hrel
    have HO := Lib.hid hO
    clear hO
    by_cases hlt : k < n
    · have i1 : (k : Int) < n := by omega
      have HS : Hid ((rot xs b).take (k + 1) = (rot xs b).take k ++ [thAt xs ((k : Int) + b)]) := rot_succ b (by rw [hxl.out]; exact hlt)
      have wk : IntKind.i64.wrap ((k : Int) + b) = k + b := IntWalk.i64_in _ (by omega)
      go_wp2_with (first | (go_at_call 72; (with_reducible refine (throwAt_n _ _ _ xs _ _ (hI.ext HO.out.ext) hn).mono ?_); rintro e w' ⟨rfl, rfl⟩) | (at_builtin; refine appM elInt (by omega) rfl _ _ Try.underlying30 rfl rfl (HO.out.trans (by with_reducible (repeat (first | exact Ext.refl _ | apply Ext.drewN | apply Ext.drew | apply Ext.alloc | (refine Ext.set ?_ (by first | (simp; done) | (simp; omega) | omega) _) | (refine Ext.trans ?_ (by assumption)))))) (by omega) rfl (heap_alloc_new _ _) (ys := [thAt xs ((k : Int) + b)]) (by rfl) (by rfl) ?_; intro v' w3 hO3; have HO3 := Lib.hid hO3; clear hO3))
      go_roundw
      case rel => exact ⟨k + 1, by omega, by go_num, by rw [HS.out]; exact HO3.out⟩
      case measure => simp [intOf]; omega
    · obtain rfl : k = n := by omega
      go_wp2
      go_ret
      exact HT0.out _ _ HO.out
set_option maxHeartbeats 1000000 in
theorem l03Rotate_any (A : Option Addr) (n c : Nat) (xs : List Int) (b : Nat) (w : World) (hI : Ints w A n xs) (hn : 1 ≤ n ∧ n ≤ 1000) (hb : b ≤ 1000) :
    Calls Try.prog 49 #[.slice A n c, .int .i64 (b : Int)] w (RetO w (rot xs b)) := by
  have hxl := Lib.hid hI.len
  have hE := Lib.hid (ownR_empty (Ext.refl w) 2 1)
  have HT0 : Hid (∀ (wr : World) (v : Value), OwnR 2 1 w wr v n ((rot xs b).take n) → RetO w (rot xs b) (.returned v) wr) := fun wr v h1 => by
    rw [List.take_of_length_le (by rw [rot_len, hxl.out]; exact Nat.le_refl _)] at h1
    have h2 : (rot xs b).length = n := by rw [rot_len, hxl.out]
    obtain ⟨A1, c1, rfl⟩ := h1.forms
    exact ⟨A1, c1, by rw [h2], by rw [h2]; exact h1⟩
  go_enter Try.func49, Try.ntmps49
  go_wp2
  go_loopw [5, 6] (fun v i wr => ∃ k : Nat, k ≤ n ∧ i = .int .i64 k ∧ OwnR 2 1 w wr v k ((rot xs b).take k)) (fun _ i _ => n - (intOf i).toNat)
  case atStart => exact ⟨0, Nat.zero_le _, rfl, by simpa using hE.out⟩
  case round =>
    obtain ⟨k, hk, rfl, hO⟩ := hrel
    have HO := Lib.hid hO
    clear hO
    by_cases hlt : k < n
    · have i1 : (k : Int) < n := by omega
      have HS : Hid ((rot xs b).take (k + 1) = (rot xs b).take k ++ [thAt xs ((k : Int) + b)]) := rot_succ b (by rw [hxl.out]; exact hlt)
      have wk : IntKind.i64.wrap ((k : Int) + b) = k + b := IntWalk.i64_in _ (by omega)
      go_wp2_with (first | (go_at_call 67; (with_reducible refine (l02At_n _ _ _ xs _ _ (hI.ext HO.out.ext) hn).mono ?_); rintro e w' ⟨rfl, rfl⟩) | (at_builtin; refine appM elInt (by omega) rfl _ _ Try.underlying30 rfl rfl (HO.out.trans (by with_reducible (repeat (first | exact Ext.refl _ | apply Ext.drewN | apply Ext.drew | apply Ext.alloc | (refine Ext.set ?_ (by first | (simp; done) | (simp; omega) | omega) _) | (refine Ext.trans ?_ (by assumption)))))) (by omega) rfl (heap_alloc_new _ _) (ys := [thAt xs ((k : Int) + b)]) (by rfl) (by rfl) ?_; intro v' w3 hO3; have HO3 := Lib.hid hO3; clear hO3))
      go_roundw
      case rel => exact ⟨k + 1, by omega, by go_num, by rw [HS.out]; exact HO3.out⟩
      case measure => simp [intOf]; omega
    · obtain rfl : k = n := by omega
      go_wp2
      go_ret
      exact HT0.out _ _ HO.out
set_option maxHeartbeats 1000000 in
theorem repeated_any (A : Option Addr) (n c : Nat) (xs : List Int) (b : Nat) (w : World) (hI : Ints w A n xs) (hb : b * n ≤ 1000) (hb2 : b ≤ 1000) :
    Calls Try.prog 70 #[.slice A n c, .int .i64 (b : Int)] w (RetO w (rpt xs b)) := by
  have hxl := Lib.hid hI.len
  have hE := Lib.hid (ownR_empty (Ext.refl w) 2 1)
  have HT0 : Hid (∀ (wr : World) (v : Value), OwnR 2 1 w wr v (rpt xs b).length (rpt xs b) → RetO w (rpt xs b) (.returned v) wr) := fun wr v h1 => by
    obtain ⟨A1, c1, rfl⟩ := h1.forms
    exact ⟨A1, c1, rfl, h1⟩
  go_enter Try.func70, Try.ntmps70
  go_wp2
  go_loopw [5, 8] (fun v i wr => ∃ k : Nat, k ≤ b ∧ i = .int .i64 k ∧ OwnR 2 1 w wr v (rpt xs k).length (rpt xs k)) (fun _ i _ => b - (intOf i).toNat)
  case atStart => exact ⟨0, Nat.zero_le _, rfl, hE.out⟩
  case round =>
    obtain ⟨k, hk, rfl, hO⟩ := hrel
    have HO := Lib.hid hO
    clear hO
    by_cases hlt : k < b
    · have i1 : (k : Int) < b := by omega
      have hle : (rpt xs k).length + n ≤ 1000000 := by
        have h1 : (k + 1) * n ≤ b * n := Nat.mul_le_mul_right _ (by omega)
        rw [rpt_len, hxl.out]
        rw [Nat.succ_mul] at h1
        omega
      have hx0 := HO.out.ext.size
      go_wp2_with (at_builtin; refine appI rfl _ _ rfl rfl HO.out.own (by omega) rfl (hI.ext HO.out.ext) hle ?_; intro v' w3 ho' hg' hat')
      have HO3 : Hid (OwnR 2 1 w w3 v' (rpt xs (k + 1)).length (rpt xs (k + 1))) := by
        have e : (rpt xs (k + 1)).length = (rpt xs k).length + n := by show (rpt xs k ++ xs).length = _; rw [List.length_append, hxl.out]
        refine ⟨?_, HO.out.ext.grown hg' (fun x hx => (World.ownsRow.lt HO.out.own x hx).1)⟩
        rw [e]
        exact ho'
      clear ho' hg' hat' hle
      go_wp2
      go_roundw
      case rel => exact ⟨k + 1, by omega, by go_num, HO3.out⟩
      case measure => simp [intOf]; omega
    · obtain rfl : k = b := by omega
      go_wp2
      go_ret
      exact HT0.out _ _ HO.out
set_option maxHeartbeats 1000000 in
theorem l03Repeat_any (A : Option Addr) (n c : Nat) (xs : List Int) (b : Nat) (w : World) (hI : Ints w A n xs) (hb : b * n ≤ 1000) (hb2 : b ≤ 1000) :
    Calls Try.prog 65 #[.slice A n c, .int .i64 (b : Int)] w (RetO w (rpt xs b)) := by
  have hxl := Lib.hid hI.len
  have hE := Lib.hid (ownR_empty (Ext.refl w) 2 1)
  have HT0 : Hid (∀ (wr : World) (v : Value), OwnR 2 1 w wr v (rpt xs b).length (rpt xs b) → RetO w (rpt xs b) (.returned v) wr) := fun wr v h1 => by
    obtain ⟨A1, c1, rfl⟩ := h1.forms
    exact ⟨A1, c1, rfl, h1⟩
  go_enter Try.func65, Try.ntmps65
  go_wp2
  go_loopw [5, 6] (fun v i wr => ∃ k : Nat, k ≤ b ∧ i = .int .i64 k ∧ OwnR 2 1 w wr v (rpt xs k).length (rpt xs k)) (fun _ i _ => b - (intOf i).toNat)
  case atStart => exact ⟨0, Nat.zero_le _, rfl, hE.out⟩
  case round =>
    obtain ⟨k, hk, rfl, hO⟩ := hrel
    have HO := Lib.hid hO
    clear hO
    by_cases hlt : k < b
    · have i1 : (k : Int) < b := by omega
      have hle : (rpt xs k).length + n ≤ 1000000 := by
        have h1 : (k + 1) * n ≤ b * n := Nat.mul_le_mul_right _ (by omega)
        rw [rpt_len, hxl.out]
        rw [Nat.succ_mul] at h1
        omega
      have hx0 := HO.out.ext.size
      go_wp2_with (at_builtin; refine appI rfl _ _ rfl rfl HO.out.own (by omega) rfl (hI.ext HO.out.ext) hle ?_; intro v' w3 ho' hg' hat')
      have HO3 : Hid (OwnR 2 1 w w3 v' (rpt xs (k + 1)).length (rpt xs (k + 1))) := by
        have e : (rpt xs (k + 1)).length = (rpt xs k).length + n := by show (rpt xs k ++ xs).length = _; rw [List.length_append, hxl.out]
        refine ⟨?_, HO.out.ext.grown hg' (fun x hx => (World.ownsRow.lt HO.out.own x hx).1)⟩
        rw [e]
        exact ho'
      clear ho' hg' hat' hle
      go_wp2
      go_roundw
      case rel => exact ⟨k + 1, by omega, by go_num, HO3.out⟩
      case measure => simp [intOf]; omega
    · obtain rfl : k = b := by omega
      go_wp2
      go_ret
      exact HT0.out _ _ HO.out
end Go.Proofs.Ytbldhfmhipdniaa

namespace Go.Proofs.Ytbldhfmhipdniaa
set_option linter.unusedVariables false
set_option linter.unusedSimpArgs false
open Go.RowKit Go.Joins

/-- A slice of numbers is handed back. -/
def RetI (w : World) (ys : List Int) (e : Ending) (w' : World) : Prop :=
  ∃ A c, e = .returned (.slice A ys.length c) ∧ Ext w w' ∧ Ints w' A ys.length ys
theorem RetO.root {w w1 w2 : World} {xs : List Int} {k : Nat} {A : Option Addr} {c : Nat} (h : rtl xs = xs.take k) (hl : (xs.take k).length = k) (hx : Ext w w1) (ho : OwnR 2 1 w1 w2 (.slice A k c) k (xs.take k)) : RetO w (rtl xs) (.returned (.slice A k c)) w2 := by
  rw [h]
  exact ⟨A, c, by rw [hl], by rw [hl]; exact ho.rebase hx⟩
theorem rtk_is {xs : List Int} {k f : Nat} (h : isRt xs k = true) (e : rtGo xs f k = rtk xs) : rtl xs = xs.take k := by
  unfold rtl
  rw [← e, rtGo_yes h]
set_option maxHeartbeats 400000 in
theorem l00SameN_any (A B : Option Addr) (n m c d : Nat) (xs ys : List Int) (w : World) (hI : Ints w A n xs) (hJ : Ints w B m ys) :
    Calls Try.prog 32 #[.slice A n c, .slice B m d] w fun e w' => e = .returned (.bool (decide (xs = ys))) ∧ Qt w w' := by
  have hs := hI.small
  have hs2 := hJ.small
  by_cases hnm : n = m
  · subst hnm
    have HE := Lib.hid (fun (h : ∀ i, i < n → xs[i]?.getD 0 = ys[i]?.getD 0) => ints_eq hI hJ.len h)
    go_enter Try.func32, Try.ntmps32
    go_wp2
    go_loopw [5] (fun i wr => ∃ k : Nat, k ≤ n ∧ i = .int .i64 k ∧ Qt w wr ∧ ∀ j, j < k → xs[j]?.getD 0 = ys[j]?.getD 0) (fun i _ => n - (intOf i).toNat)
    case atStart => exact ⟨0, Nat.zero_le _, rfl, Qt.refl _, fun j h => absurd h (by omega)⟩
    case round =>
      obtain ⟨k, hk, rfl, ⟨q, rfl⟩, hall⟩ := hrel
      have HA := Lib.hid hall
      clear hall
      by_cases hlt : k < n
      · obtain ⟨b, off, hA, hb, hcell⟩ := hI.at_ (by omega)
        obtain ⟨b2, off2, hB, hb2, hcell2⟩ := hJ.at_ (by omega)
        subst hA hB
        have c1 := hcell k hlt
        have c2 := hcell2 k hlt
        have i1 : (k : Int) < n := by omega
        clear hcell hcell2
        by_cases he : xs[k]?.getD 0 = ys[k]?.getD 0
        · have HA2 : Hid (∀ j, j < k + 1 → xs[j]?.getD 0 = ys[j]?.getD 0) := fun j hj => by
            by_cases e : j = k
            · rw [e]; exact he
            · exact HA.out j (by omega)
          rw [he] at c1
          clear he
          go_wp2
          go_quiet (fail)
          go_wp2
          go_roundw
          case rel => exact ⟨k + 1, by omega, by go_num, (by first | exact ⟨_, rfl⟩ | exact ⟨_, World.drewN_drewN _ _ _⟩), HA2.out⟩
          case measure => simp [intOf]; omega
        · have HR : Hid (decide (xs = ys) = false) := decide_eq_false (fun h => he (by rw [h]))
          have hne : (xs[k]?.getD 0 != ys[k]?.getD 0) = true := by simpa using he
          clear he
          generalize xs[k]?.getD 0 = u at *
          generalize ys[k]?.getD 0 = v at *
          go_wp2
          go_quiet (fail)
          go_wp2
          go_ret
          exact ⟨ret_bool HR.out.symm, (by first | exact ⟨_, rfl⟩ | exact ⟨_, World.drewN_drewN _ _ _⟩)⟩
      · have HR : Hid (decide (xs = ys) = true) := decide_eq_true (HE.out (fun i hi => HA.out i (by omega)))
        obtain rfl : k = n := by omega
        go_wp2
        go_ret
        exact ⟨ret_bool HR.out.symm, (by first | exact ⟨_, rfl⟩ | exact ⟨_, World.drewN_drewN _ _ _⟩)⟩
  · have HR : Hid (decide (xs = ys) = false) := decide_eq_false (fun h => hnm (by rw [← hI.len, ← hJ.len, h]))
    have h1 : ((n : Int) != m) = true := by simp; omega
    go_enter Try.func32, Try.ntmps32
    go_wp2
    go_ret
    exact ⟨ret_bool HR.out.symm, Qt.refl _⟩
theorem l00SameN_is (A B : Option Addr) (n m c d : Nat) (xs ys : List Int) (w : World) (hI : Ints w A n xs) (hJ : Ints w B m ys) (v : Bool) (hv : decide (xs = ys) = v) :
    Calls Try.prog 32 #[.slice A n c, .slice B m d] w fun e w' => e = .returned (.bool v) ∧ Qt w w' := by
  subst hv
  exact l00SameN_any A B n m c d xs ys w hI hJ
set_option maxHeartbeats 4000000 in
theorem root_any (A : Option Addr) (n c : Nat) (xs : List Int) (w : World) (hI : Ints w A n xs) (hn : 1 ≤ n ∧ n ≤ 1000) (hc : n ≤ c) :
    Calls Try.prog 55 #[.slice A n c] w (RetO w (rtl xs)) := by
  have hxl := Lib.hid hI.len
  have hbd := Lib.hid hI.bds
  obtain ⟨b, off, hA, _, _⟩ := hI.at_ (by omega)
  subst hA
  have hci : (n : Int) ≤ c := by omega
  go_enter Try.func55, Try.ntmps55
  go_wp2
  go_loopw [3] (fun i wr => ∃ k : Nat, 1 ≤ k ∧ k ≤ n ∧ i = .int .i64 k ∧ Ext w wr ∧ Hid (rtGo xs (n - k) k = rtk xs)) (fun i _ => n + 1 - (intOf i).toNat)
  case atStart => exact ⟨1, Nat.le_refl _, hn.1, rfl, Ext.refl _, by show rtGo _ _ _ = _; unfold rtk; rw [hxl.out]⟩
  case round =>
    obtain ⟨k, hk1, hk, rfl, hxr, HG⟩ := hrel
    have HI := Lib.hid (hI.ext hxr)
    have HX := Lib.hid hxr
    clear hxr
    have hk0 : (0 : Int) ≤ k := by omega
    have hkc : (k : Int) ≤ c := by omega
    have hk2 : ¬ (k : Int) = 0 := by omega
    have hk3 : ¬ k = 0 := by omega
    obtain ⟨r, hr⟩ : ∃ r : Nat, n % k = r := ⟨_, rfl⟩
    have hr1 : Int.tmod (n : Int) k = r := by rw [← hr]; rfl
    have HR := Lib.hid hr
    clear hr
    by_cases hr0 : r = 0
    · subst hr0
      have hr2 : Int.tmod (n : Int) k = 0 := hr1
      clear hr1
      obtain ⟨d, hd⟩ : ∃ d : Nat, n / k = d := ⟨_, rfl⟩
      have hdk : d * k = n := by rw [← hd]; exact Nat.div_mul_cancel (Nat.dvd_of_mod_eq_zero HR.out)
      have hd1 : d ≤ n := by rw [← hd]; exact Nat.div_le_self _ _
      have hq1 : Int.tdiv (n : Int) k = d := by rw [← hd]; rfl
      have hq2 : IntKind.i64.wrap (d : Int) = d := IntWalk.i64_in _ (by omega)
      have hq3 : IntKind.i64.wrap (Int.tdiv (n : Int) k) = d := by rw [hq1]; exact hq2
      have HTK : Hid (Ints wr (some ⟨b, off, none⟩) k (xs.take k)) := HI.out.take hk
      have HTL : Hid ((xs.take k).length = k) := by show _ = _; rw [List.length_take, hxl.out]; omega
      have HRL : Hid ((rpt (xs.take k) d).length = n) := by show _ = _; rw [rpt_len, HTL.out, hdk]
      have HRB : Hid (∀ y ∈ rpt (xs.take k) d, -9223372036854775808 ≤ y ∧ y ≤ 9223372036854775807) := fun y hy => hbd.out y (List.mem_of_mem_take (rpt_mem hy))
      have HD := Lib.hid hd
      have hdk2 : d * k ≤ 1000 := by omega
      clear hd hdk
      obtain ⟨v, hv⟩ : ∃ v, decide (rpt (xs.take k) d = xs) = v := ⟨_, rfl⟩
      have HV := Lib.hid hv
      clear hv
      cases v
      · have HB : Hid (isRt xs k = false) := by
          show _ = _
          unfold isRt
          rw [hxl.out, HD.out]
          exact decide_eq_false (fun h => of_decide_eq_false HV.out h.2)
        have hkn : k < n := by
          rcases Nat.lt_or_ge k n with h | h
          · exact h
          · have e : k = n := by omega
            have h1 := isRt_self (xs := xs) (by rw [hxl.out]; omega)
            rw [hxl.out, ← e, HB.out] at h1
            cases h1
        have HG2 : Hid (rtGo xs (n - (k + 1)) (k + 1) = rtk xs) := by
          show _ = _
          rw [← HG.out, show n - k = (n - (k + 1)) + 1 by omega, rtGo_no HB.out]
        go_wp2
        refine wp_region_any (by kernel_rfl) ?_
        (try (change wpAny _ _ _ _ _ _ _ (World.drew _)))
        refine wpAny_take (i := 0) (v := ?_) rfl (by kernel_rfl) (by kernel_rfl) (by kernel_rfl) (fun _ _ _ h => h) (Or.inl ⟨by rfl, ?hy1⟩) ?_
        case hy1 => ((intro w; go_simp); (try with_reducible rfl))
        (try simp only [List.getElem_toArray, List.getElem_cons_succ, List.getElem_cons_zero, Act.put, List.setIfInBounds_toArray, List.set_cons_zero, List.set_cons_succ])
        refine wpAny_take (i := 2) (v := ?_) rfl (by kernel_rfl) (by kernel_rfl) (by kernel_rfl) (fun _ _ _ h => h) (Or.inl ⟨by rfl, ?hy2⟩) ?_
        case hy2 => ((intro w; go_simp); (try with_reducible rfl))
        (try simp only [List.getElem_toArray, List.getElem_cons_succ, List.getElem_cons_zero, Act.put, List.setIfInBounds_toArray, List.set_cons_zero, List.set_cons_succ])
        refine wpAny_ready (rs := [1]) (by kernel_rfl) (by simp) ?_
        refine AllReady.cons rfl (fun K hK => ?_) AllReady.nil
        go_simp
        go_wp2_with (first | (go_at_call 56; (with_reducible refine (period_any _ _ _ _).mono ?_); rintro e w' ⟨rfl, rfl⟩) | (go_at_call 70; (with_reducible refine (repeated_any _ _ _ (xs.take k) d _ (HTK.out.ext (by with_reducible (repeat (first | exact Ext.refl _ | apply Ext.drewN | apply Ext.drew | apply Ext.alloc | (refine Ext.set ?_ (by first | (simp; done) | (simp; omega) | omega) _) | (refine Ext.trans ?_ (by assumption)))))) (by omega) (by omega)).mono ?_); rintro e w2 ⟨A2, c2, rfl, O2⟩; have hx2 : Ext wr w2 := (show Ext wr wr.drew from (Ext.refl _).drew).trans O2.ext; have I2 := Lib.hid (O2.ints (by rw [HRL.out]; omega) HRB.out)) | (go_at_call 38; (with_reducible refine (sameNumbers_is _ _ _ _ _ _ (rpt (xs.take k) d) xs _ I2.out (HI.out.ext hx2) _ HV.out).mono ?_); rintro e w3 ⟨rfl, q3, rfl⟩))
        (try (refine hK _ _ ?_; clear hK K))
        (try simp only [List.getElem_toArray, List.getElem_cons_succ, List.getElem_cons_zero, Act.put, List.setIfInBounds_toArray, List.set_cons_zero, List.set_cons_succ])
        refine wpAny_take (i := 3) (v := ?_) rfl (by kernel_rfl) (by kernel_rfl) (by kernel_rfl) (fun _ _ _ h => h) (Or.inl ⟨by rfl, ?hy3⟩) ?_
        case hy3 => ((intro w; go_simp); (try with_reducible rfl))
        (try simp only [List.getElem_toArray, List.getElem_cons_succ, List.getElem_cons_zero, Act.put, List.setIfInBounds_toArray, List.set_cons_zero, List.set_cons_succ])
        refine wpAny_take (i := 4) (v := ?_) rfl (by kernel_rfl) (by kernel_rfl) (by kernel_rfl) (fun _ _ _ h => h) (Or.inl ⟨by rfl, ?hy4⟩) ?_
        case hy4 => ((intro w; go_simp); (try with_reducible rfl))
        (try simp only [List.getElem_toArray, List.getElem_cons_succ, List.getElem_cons_zero, Act.put, List.setIfInBounds_toArray, List.set_cons_zero, List.set_cons_succ])
        refine wpAny_take (i := 5) (v := ?_) rfl (by kernel_rfl) (by kernel_rfl) (by kernel_rfl) (fun _ _ _ h => h) (Or.inl ⟨by rfl, ?hy5⟩) ?_
        case hy5 => ((intro w; go_simp); (try with_reducible rfl))
        (try simp only [List.getElem_toArray, List.getElem_cons_succ, List.getElem_cons_zero, Act.put, List.setIfInBounds_toArray, List.set_cons_zero, List.set_cons_succ])
        refine wpAny_take (i := 6) (v := ?_) rfl (by kernel_rfl) (by kernel_rfl) (by kernel_rfl) (fun _ _ _ h => h) (Or.inl ⟨by rfl, ?hy6⟩) ?_
        case hy6 => ((intro w; go_simp); (try with_reducible rfl))
        (try simp only [List.getElem_toArray, List.getElem_cons_succ, List.getElem_cons_zero, Act.put, List.setIfInBounds_toArray, List.set_cons_zero, List.set_cons_succ])
        refine wpAny_take (i := 7) (v := ?_) rfl (by kernel_rfl) (by kernel_rfl) (by kernel_rfl) (fun _ _ _ h => h) (Or.inl ⟨by rfl, ?hy7⟩) ?_
        case hy7 => ((intro w; go_simp); (try with_reducible rfl))
        (try simp only [List.getElem_toArray, List.getElem_cons_succ, List.getElem_cons_zero, Act.put, List.setIfInBounds_toArray, List.set_cons_zero, List.set_cons_succ])
        refine wpAny_take (i := 8) (v := ?_) rfl (by kernel_rfl) (by kernel_rfl) (by kernel_rfl) (fun _ _ _ h => h) (Or.inl ⟨by rfl, ?hy8⟩) ?_
        case hy8 => ((intro w; go_simp); (try with_reducible rfl))
        (try simp only [List.getElem_toArray, List.getElem_cons_succ, List.getElem_cons_zero, Act.put, List.setIfInBounds_toArray, List.set_cons_zero, List.set_cons_succ])
        refine wpAny_take (i := 9) (v := ?_) rfl (by kernel_rfl) (by kernel_rfl) (by kernel_rfl) (fun _ _ _ h => h) (Or.inl ⟨by rfl, ?hy9⟩) ?_
        case hy9 => ((intro w; go_simp); (try with_reducible rfl))
        (try simp only [List.getElem_toArray, List.getElem_cons_succ, List.getElem_cons_zero, Act.put, List.setIfInBounds_toArray, List.set_cons_zero, List.set_cons_succ])
        refine wpAny_take (i := 11) (v := ?_) rfl (by kernel_rfl) (by kernel_rfl) (by kernel_rfl) (fun _ _ _ h => h) (Or.inl ⟨by rfl, ?hy10⟩) ?_
        case hy10 => ((intro w; go_simp); (try with_reducible rfl))
        (try simp only [List.getElem_toArray, List.getElem_cons_succ, List.getElem_cons_zero, Act.put, List.setIfInBounds_toArray, List.set_cons_zero, List.set_cons_succ])
        refine wpAny_take (i := 14) (v := ?_) rfl (by kernel_rfl) (by kernel_rfl) (by kernel_rfl) (fun _ _ _ h => h) (Or.inl ⟨by rfl, ?hy11⟩) ?_
        case hy11 => ((intro w; go_simp); (try with_reducible rfl))
        (try simp only [List.getElem_toArray, List.getElem_cons_succ, List.getElem_cons_zero, Act.put, List.setIfInBounds_toArray, List.set_cons_zero, List.set_cons_succ])
        refine wpAny_ready (rs := [10]) (by kernel_rfl) (by simp) ?_
        refine AllReady.cons rfl (fun K hK => ?_) AllReady.nil
        go_simp
        go_wp2_with (first | (go_at_call 56; (with_reducible refine (period_any _ _ _ _).mono ?_); rintro e w' ⟨rfl, rfl⟩) | (go_at_call 70; (with_reducible refine (repeated_any _ _ _ (xs.take k) d _ (HTK.out.ext (by with_reducible (repeat (first | exact Ext.refl _ | apply Ext.drewN | apply Ext.drew | apply Ext.alloc | (refine Ext.set ?_ (by first | (simp; done) | (simp; omega) | omega) _) | (refine Ext.trans ?_ (by assumption)))))) (by omega) (by omega)).mono ?_); rintro e w2 ⟨A2, c2, rfl, O2⟩; have hx2 : Ext wr w2 := (show Ext wr wr.drew from (Ext.refl _).drew).trans O2.ext; have I2 := Lib.hid (O2.ints (by rw [HRL.out]; omega) HRB.out)) | (go_at_call 38; (with_reducible refine (sameNumbers_is _ _ _ _ _ _ (rpt (xs.take k) d) xs _ I2.out (HI.out.ext hx2) _ HV.out).mono ?_); rintro e w3 ⟨rfl, q3, rfl⟩))
        (try (refine hK _ _ ?_; clear hK K))
        (try simp only [List.getElem_toArray, List.getElem_cons_succ, List.getElem_cons_zero, Act.put, List.setIfInBounds_toArray, List.set_cons_zero, List.set_cons_succ])
        refine wpAny_take (i := 12) (v := ?_) rfl (by kernel_rfl) (by kernel_rfl) (by kernel_rfl) (fun _ _ _ h => h) (Or.inl ⟨by rfl, ?hy12⟩) ?_
        case hy12 => ((intro w; go_simp); (try with_reducible rfl))
        (try simp only [List.getElem_toArray, List.getElem_cons_succ, List.getElem_cons_zero, Act.put, List.setIfInBounds_toArray, List.set_cons_zero, List.set_cons_succ])
        refine wpAny_ready (rs := [13]) (by kernel_rfl) (by simp) ?_
        refine AllReady.cons rfl (fun K hK => ?_) AllReady.nil
        go_simp
        go_wp2_with (first | (go_at_call 56; (with_reducible refine (period_any _ _ _ _).mono ?_); rintro e w' ⟨rfl, rfl⟩) | (go_at_call 70; (with_reducible refine (repeated_any _ _ _ (xs.take k) d _ (HTK.out.ext (by with_reducible (repeat (first | exact Ext.refl _ | apply Ext.drewN | apply Ext.drew | apply Ext.alloc | (refine Ext.set ?_ (by first | (simp; done) | (simp; omega) | omega) _) | (refine Ext.trans ?_ (by assumption)))))) (by omega) (by omega)).mono ?_); rintro e w2 ⟨A2, c2, rfl, O2⟩; have hx2 : Ext wr w2 := (show Ext wr wr.drew from (Ext.refl _).drew).trans O2.ext; have I2 := Lib.hid (O2.ints (by rw [HRL.out]; omega) HRB.out)) | (go_at_call 38; (with_reducible refine (sameNumbers_is _ _ _ _ _ _ (rpt (xs.take k) d) xs _ I2.out (HI.out.ext hx2) _ HV.out).mono ?_); rintro e w3 ⟨rfl, q3, rfl⟩))
        (try (refine hK _ _ ?_; clear hK K))
        (try simp only [List.getElem_toArray, List.getElem_cons_succ, List.getElem_cons_zero, Act.put, List.setIfInBounds_toArray, List.set_cons_zero, List.set_cons_succ])
        refine wpAny_ready (rs := [15]) (by kernel_rfl) (by simp) ?_
        refine AllReady.cons rfl (fun K hK => ?_) AllReady.nil
        go_simp
        go_wp2_with (first | (go_at_call 56; (with_reducible refine (period_any _ _ _ _).mono ?_); rintro e w' ⟨rfl, rfl⟩) | (go_at_call 70; (with_reducible refine (repeated_any _ _ _ (xs.take k) d _ (HTK.out.ext (by with_reducible (repeat (first | exact Ext.refl _ | apply Ext.drewN | apply Ext.drew | apply Ext.alloc | (refine Ext.set ?_ (by first | (simp; done) | (simp; omega) | omega) _) | (refine Ext.trans ?_ (by assumption)))))) (by omega) (by omega)).mono ?_); rintro e w2 ⟨A2, c2, rfl, O2⟩; have hx2 : Ext wr w2 := (show Ext wr wr.drew from (Ext.refl _).drew).trans O2.ext; have I2 := Lib.hid (O2.ints (by rw [HRL.out]; omega) HRB.out)) | (go_at_call 38; (with_reducible refine (sameNumbers_is _ _ _ _ _ _ (rpt (xs.take k) d) xs _ I2.out (HI.out.ext hx2) _ HV.out).mono ?_); rintro e w3 ⟨rfl, q3, rfl⟩))
        (try (refine hK _ _ ?_; clear hK K))
        (try simp only [List.getElem_toArray, List.getElem_cons_succ, List.getElem_cons_zero, Act.put, List.setIfInBounds_toArray, List.set_cons_zero, List.set_cons_succ])
        refine wpAny_take (i := 16) (v := ?_) rfl (by kernel_rfl) (by kernel_rfl) (by kernel_rfl) (fun _ _ _ h => h) (Or.inl ⟨by rfl, ?hy13⟩) ?_
        case hy13 => ((intro w; go_simp); (try with_reducible rfl))
        (try simp only [List.getElem_toArray, List.getElem_cons_succ, List.getElem_cons_zero, Act.put, List.setIfInBounds_toArray, List.set_cons_zero, List.set_cons_succ])
        refine wpAny_done (by kernel_rfl) ?_ _
        have hx9 : Ext wr (w2.drewN q3) := hx2.trans ((Ext.refl _).drewN q3)
        clear O2 hx2
        go_wp2
        go_roundw
        case rel => exact ⟨k + 1, by omega, by omega, by go_num, HX.out.trans hx9, HG2⟩
        case measure => simp [intOf]; omega
      · have HB : Hid (isRt xs k = true) := by
          show _ = _
          unfold isRt
          rw [hxl.out, HD.out]
          exact decide_eq_true ⟨HR.out, of_decide_eq_true HV.out⟩
        have HK : Hid (rtl xs = xs.take k) := rtk_is HB.out HG.out
        go_wp2
        refine wp_region_any (by kernel_rfl) ?_
        (try (change wpAny _ _ _ _ _ _ _ (World.drew _)))
        refine wpAny_take (i := 0) (v := ?_) rfl (by kernel_rfl) (by kernel_rfl) (by kernel_rfl) (fun _ _ _ h => h) (Or.inl ⟨by rfl, ?hy14⟩) ?_
        case hy14 => ((intro w; go_simp); (try with_reducible rfl))
        (try simp only [List.getElem_toArray, List.getElem_cons_succ, List.getElem_cons_zero, Act.put, List.setIfInBounds_toArray, List.set_cons_zero, List.set_cons_succ])
        refine wpAny_take (i := 2) (v := ?_) rfl (by kernel_rfl) (by kernel_rfl) (by kernel_rfl) (fun _ _ _ h => h) (Or.inl ⟨by rfl, ?hy15⟩) ?_
        case hy15 => ((intro w; go_simp); (try with_reducible rfl))
        (try simp only [List.getElem_toArray, List.getElem_cons_succ, List.getElem_cons_zero, Act.put, List.setIfInBounds_toArray, List.set_cons_zero, List.set_cons_succ])
        refine wpAny_ready (rs := [1]) (by kernel_rfl) (by simp) ?_
        refine AllReady.cons rfl (fun K hK => ?_) AllReady.nil
        go_simp
        go_wp2_with (first | (go_at_call 56; (with_reducible refine (period_any _ _ _ _).mono ?_); rintro e w' ⟨rfl, rfl⟩) | (go_at_call 70; (with_reducible refine (repeated_any _ _ _ (xs.take k) d _ (HTK.out.ext (by with_reducible (repeat (first | exact Ext.refl _ | apply Ext.drewN | apply Ext.drew | apply Ext.alloc | (refine Ext.set ?_ (by first | (simp; done) | (simp; omega) | omega) _) | (refine Ext.trans ?_ (by assumption)))))) (by omega) (by omega)).mono ?_); rintro e w2 ⟨A2, c2, rfl, O2⟩; have hx2 : Ext wr w2 := (show Ext wr wr.drew from (Ext.refl _).drew).trans O2.ext; have I2 := Lib.hid (O2.ints (by rw [HRL.out]; omega) HRB.out)) | (go_at_call 38; (with_reducible refine (sameNumbers_is _ _ _ _ _ _ (rpt (xs.take k) d) xs _ I2.out (HI.out.ext hx2) _ HV.out).mono ?_); rintro e w3 ⟨rfl, q3, rfl⟩))
        (try (refine hK _ _ ?_; clear hK K))
        (try simp only [List.getElem_toArray, List.getElem_cons_succ, List.getElem_cons_zero, Act.put, List.setIfInBounds_toArray, List.set_cons_zero, List.set_cons_succ])
        refine wpAny_take (i := 3) (v := ?_) rfl (by kernel_rfl) (by kernel_rfl) (by kernel_rfl) (fun _ _ _ h => h) (Or.inl ⟨by rfl, ?hy16⟩) ?_
        case hy16 => ((intro w; go_simp); (try with_reducible rfl))
        (try simp only [List.getElem_toArray, List.getElem_cons_succ, List.getElem_cons_zero, Act.put, List.setIfInBounds_toArray, List.set_cons_zero, List.set_cons_succ])
        refine wpAny_take (i := 4) (v := ?_) rfl (by kernel_rfl) (by kernel_rfl) (by kernel_rfl) (fun _ _ _ h => h) (Or.inl ⟨by rfl, ?hy17⟩) ?_
        case hy17 => ((intro w; go_simp); (try with_reducible rfl))
        (try simp only [List.getElem_toArray, List.getElem_cons_succ, List.getElem_cons_zero, Act.put, List.setIfInBounds_toArray, List.set_cons_zero, List.set_cons_succ])
        refine wpAny_take (i := 5) (v := ?_) rfl (by kernel_rfl) (by kernel_rfl) (by kernel_rfl) (fun _ _ _ h => h) (Or.inl ⟨by rfl, ?hy18⟩) ?_
        case hy18 => ((intro w; go_simp); (try with_reducible rfl))
        (try simp only [List.getElem_toArray, List.getElem_cons_succ, List.getElem_cons_zero, Act.put, List.setIfInBounds_toArray, List.set_cons_zero, List.set_cons_succ])
        refine wpAny_take (i := 6) (v := ?_) rfl (by kernel_rfl) (by kernel_rfl) (by kernel_rfl) (fun _ _ _ h => h) (Or.inl ⟨by rfl, ?hy19⟩) ?_
        case hy19 => ((intro w; go_simp); (try with_reducible rfl))
        (try simp only [List.getElem_toArray, List.getElem_cons_succ, List.getElem_cons_zero, Act.put, List.setIfInBounds_toArray, List.set_cons_zero, List.set_cons_succ])
        refine wpAny_take (i := 7) (v := ?_) rfl (by kernel_rfl) (by kernel_rfl) (by kernel_rfl) (fun _ _ _ h => h) (Or.inl ⟨by rfl, ?hy20⟩) ?_
        case hy20 => ((intro w; go_simp); (try with_reducible rfl))
        (try simp only [List.getElem_toArray, List.getElem_cons_succ, List.getElem_cons_zero, Act.put, List.setIfInBounds_toArray, List.set_cons_zero, List.set_cons_succ])
        refine wpAny_take (i := 8) (v := ?_) rfl (by kernel_rfl) (by kernel_rfl) (by kernel_rfl) (fun _ _ _ h => h) (Or.inl ⟨by rfl, ?hy21⟩) ?_
        case hy21 => ((intro w; go_simp); (try with_reducible rfl))
        (try simp only [List.getElem_toArray, List.getElem_cons_succ, List.getElem_cons_zero, Act.put, List.setIfInBounds_toArray, List.set_cons_zero, List.set_cons_succ])
        refine wpAny_take (i := 9) (v := ?_) rfl (by kernel_rfl) (by kernel_rfl) (by kernel_rfl) (fun _ _ _ h => h) (Or.inl ⟨by rfl, ?hy22⟩) ?_
        case hy22 => ((intro w; go_simp); (try with_reducible rfl))
        (try simp only [List.getElem_toArray, List.getElem_cons_succ, List.getElem_cons_zero, Act.put, List.setIfInBounds_toArray, List.set_cons_zero, List.set_cons_succ])
        refine wpAny_take (i := 11) (v := ?_) rfl (by kernel_rfl) (by kernel_rfl) (by kernel_rfl) (fun _ _ _ h => h) (Or.inl ⟨by rfl, ?hy23⟩) ?_
        case hy23 => ((intro w; go_simp); (try with_reducible rfl))
        (try simp only [List.getElem_toArray, List.getElem_cons_succ, List.getElem_cons_zero, Act.put, List.setIfInBounds_toArray, List.set_cons_zero, List.set_cons_succ])
        refine wpAny_take (i := 14) (v := ?_) rfl (by kernel_rfl) (by kernel_rfl) (by kernel_rfl) (fun _ _ _ h => h) (Or.inl ⟨by rfl, ?hy24⟩) ?_
        case hy24 => ((intro w; go_simp); (try with_reducible rfl))
        (try simp only [List.getElem_toArray, List.getElem_cons_succ, List.getElem_cons_zero, Act.put, List.setIfInBounds_toArray, List.set_cons_zero, List.set_cons_succ])
        refine wpAny_ready (rs := [10]) (by kernel_rfl) (by simp) ?_
        refine AllReady.cons rfl (fun K hK => ?_) AllReady.nil
        go_simp
        go_wp2_with (first | (go_at_call 56; (with_reducible refine (period_any _ _ _ _).mono ?_); rintro e w' ⟨rfl, rfl⟩) | (go_at_call 70; (with_reducible refine (repeated_any _ _ _ (xs.take k) d _ (HTK.out.ext (by with_reducible (repeat (first | exact Ext.refl _ | apply Ext.drewN | apply Ext.drew | apply Ext.alloc | (refine Ext.set ?_ (by first | (simp; done) | (simp; omega) | omega) _) | (refine Ext.trans ?_ (by assumption)))))) (by omega) (by omega)).mono ?_); rintro e w2 ⟨A2, c2, rfl, O2⟩; have hx2 : Ext wr w2 := (show Ext wr wr.drew from (Ext.refl _).drew).trans O2.ext; have I2 := Lib.hid (O2.ints (by rw [HRL.out]; omega) HRB.out)) | (go_at_call 38; (with_reducible refine (sameNumbers_is _ _ _ _ _ _ (rpt (xs.take k) d) xs _ I2.out (HI.out.ext hx2) _ HV.out).mono ?_); rintro e w3 ⟨rfl, q3, rfl⟩))
        (try (refine hK _ _ ?_; clear hK K))
        (try simp only [List.getElem_toArray, List.getElem_cons_succ, List.getElem_cons_zero, Act.put, List.setIfInBounds_toArray, List.set_cons_zero, List.set_cons_succ])
        refine wpAny_take (i := 12) (v := ?_) rfl (by kernel_rfl) (by kernel_rfl) (by kernel_rfl) (fun _ _ _ h => h) (Or.inl ⟨by rfl, ?hy25⟩) ?_
        case hy25 => ((intro w; go_simp); (try with_reducible rfl))
        (try simp only [List.getElem_toArray, List.getElem_cons_succ, List.getElem_cons_zero, Act.put, List.setIfInBounds_toArray, List.set_cons_zero, List.set_cons_succ])
        refine wpAny_ready (rs := [13]) (by kernel_rfl) (by simp) ?_
        refine AllReady.cons rfl (fun K hK => ?_) AllReady.nil
        go_simp
        go_wp2_with (first | (go_at_call 56; (with_reducible refine (period_any _ _ _ _).mono ?_); rintro e w' ⟨rfl, rfl⟩) | (go_at_call 70; (with_reducible refine (repeated_any _ _ _ (xs.take k) d _ (HTK.out.ext (by with_reducible (repeat (first | exact Ext.refl _ | apply Ext.drewN | apply Ext.drew | apply Ext.alloc | (refine Ext.set ?_ (by first | (simp; done) | (simp; omega) | omega) _) | (refine Ext.trans ?_ (by assumption)))))) (by omega) (by omega)).mono ?_); rintro e w2 ⟨A2, c2, rfl, O2⟩; have hx2 : Ext wr w2 := (show Ext wr wr.drew from (Ext.refl _).drew).trans O2.ext; have I2 := Lib.hid (O2.ints (by rw [HRL.out]; omega) HRB.out)) | (go_at_call 38; (with_reducible refine (sameNumbers_is _ _ _ _ _ _ (rpt (xs.take k) d) xs _ I2.out (HI.out.ext hx2) _ HV.out).mono ?_); rintro e w3 ⟨rfl, q3, rfl⟩))
        (try (refine hK _ _ ?_; clear hK K))
        (try simp only [List.getElem_toArray, List.getElem_cons_succ, List.getElem_cons_zero, Act.put, List.setIfInBounds_toArray, List.set_cons_zero, List.set_cons_succ])
        refine wpAny_ready (rs := [15]) (by kernel_rfl) (by simp) ?_
        refine AllReady.cons rfl (fun K hK => ?_) AllReady.nil
        go_simp
        go_wp2_with (first | (go_at_call 56; (with_reducible refine (period_any _ _ _ _).mono ?_); rintro e w' ⟨rfl, rfl⟩) | (go_at_call 70; (with_reducible refine (repeated_any _ _ _ (xs.take k) d _ (HTK.out.ext (by with_reducible (repeat (first | exact Ext.refl _ | apply Ext.drewN | apply Ext.drew | apply Ext.alloc | (refine Ext.set ?_ (by first | (simp; done) | (simp; omega) | omega) _) | (refine Ext.trans ?_ (by assumption)))))) (by omega) (by omega)).mono ?_); rintro e w2 ⟨A2, c2, rfl, O2⟩; have hx2 : Ext wr w2 := (show Ext wr wr.drew from (Ext.refl _).drew).trans O2.ext; have I2 := Lib.hid (O2.ints (by rw [HRL.out]; omega) HRB.out)) | (go_at_call 38; (with_reducible refine (sameNumbers_is _ _ _ _ _ _ (rpt (xs.take k) d) xs _ I2.out (HI.out.ext hx2) _ HV.out).mono ?_); rintro e w3 ⟨rfl, q3, rfl⟩))
        (try (refine hK _ _ ?_; clear hK K))
        (try simp only [List.getElem_toArray, List.getElem_cons_succ, List.getElem_cons_zero, Act.put, List.setIfInBounds_toArray, List.set_cons_zero, List.set_cons_succ])
        refine wpAny_take (i := 16) (v := ?_) rfl (by kernel_rfl) (by kernel_rfl) (by kernel_rfl) (fun _ _ _ h => h) (Or.inl ⟨by rfl, ?hy26⟩) ?_
        case hy26 => ((intro w; go_simp); (try with_reducible rfl))
        (try simp only [List.getElem_toArray, List.getElem_cons_succ, List.getElem_cons_zero, Act.put, List.setIfInBounds_toArray, List.set_cons_zero, List.set_cons_succ])
        refine wpAny_done (by kernel_rfl) ?_ _
        have hx9 : Ext wr (w2.drewN q3) := hx2.trans ((Ext.refl _).drewN q3)
        have HX9 := Lib.hid hx9
        clear O2 hx2 hx9
        go_wp2_with fail
        (with_reducible refine (copyNumbers_any _ _ _ (xs.take k) _ (HTK.out.ext HX9.out) (by omega)).mono ?_)
        rintro e w4 ⟨A4, c4, rfl, O4⟩
        have HO4 := Lib.hid O4
        clear O4
        go_wp2
        go_ret
        exact RetO.root HK.out HTL.out (HX.out.trans HX9.out) HO4.out
    · have HB : Hid (isRt xs k = false) := by
        show _ = _
        unfold isRt
        rw [hxl.out]
        exact decide_eq_false (fun h => hr0 (by rw [← HR.out]; exact h.1))
      have hkn : k < n := by
        rcases Nat.lt_or_ge k n with h | h
        · exact h
        · have e : k = n := by omega
          have h1 := isRt_self (xs := xs) (by rw [hxl.out]; omega)
          rw [hxl.out, ← e, HB.out] at h1
          cases h1
      have HG2 : Hid (rtGo xs (n - (k + 1)) (k + 1) = rtk xs) := by
        show _ = _
        rw [← HG.out, show n - k = (n - (k + 1)) + 1 by omega, rtGo_no HB.out]
      have g1 : ((r : Int) == 0) = false := by simpa using hr0
      clear hr0
      go_wp2
      go_quiet ((go_at_call 56; first | with_reducible exact quiet_l (period_any _ _ _ _) | with_reducible exact quiet_la (period_any _ _ _ _)))
      go_wp2
      go_roundw
      case rel => exact ⟨k + 1, by omega, by omega, by go_num, HX.out.trans (by with_reducible (repeat (first | exact Ext.refl _ | apply Ext.drewN | apply Ext.drew | apply Ext.alloc | (refine Ext.set ?_ (by first | (simp; done) | (simp; omega) | omega) _) | (refine Ext.trans ?_ (by assumption))))), HG2⟩
      case measure => simp [intOf]; omega
set_option maxHeartbeats 4000000 in
theorem l03Root_any (A : Option Addr) (n c : Nat) (xs : List Int) (w : World) (hI : Ints w A n xs) (hn : 1 ≤ n ∧ n ≤ 1000) (hc : n ≤ c) :
    Calls Try.prog 48 #[.slice A n c] w (RetO w (rtl xs)) := by
  have hxl := Lib.hid hI.len
  have hbd := Lib.hid hI.bds
  obtain ⟨b, off, hA, _, _⟩ := hI.at_ (by omega)
  subst hA
  have hci : (n : Int) ≤ c := by omega
  go_enter Try.func48, Try.ntmps48
  go_wp2
  go_loopw [4] (fun i wr => ∃ k : Nat, 1 ≤ k ∧ k ≤ n ∧ i = .int .i64 k ∧ Ext w wr ∧ Hid (rtGo xs (n - k) k = rtk xs)) (fun i _ => n + 1 - (intOf i).toNat)
  case atStart => exact ⟨1, Nat.le_refl _, hn.1, rfl, Ext.refl _, by show rtGo _ _ _ = _; unfold rtk; rw [hxl.out]⟩
  case round =>
    obtain ⟨k, hk1, hk, rfl, hxr, HG⟩ := hrel
    have HI := Lib.hid (hI.ext hxr)
    have HX := Lib.hid hxr
    clear hxr
    by_cases hlt : k = n
    · subst hlt
      have HK : Hid (rtl xs = xs.take k) := rtk_is (by have := isRt_self (xs := xs) (by rw [hxl.out]; omega); rwa [hxl.out] at this) HG.out
      have HTL : Hid (xs.take k = xs) := List.take_of_length_le (by rw [hxl.out]; exact Nat.le_refl _)
      go_wp2_with fail
      (with_reducible refine (l00Own_any _ _ _ xs _ (HI.out.ext (by with_reducible (repeat (first | exact Ext.refl _ | apply Ext.drewN | apply Ext.drew | apply Ext.alloc | (refine Ext.set ?_ (by first | (simp; done) | (simp; omega) | omega) _) | (refine Ext.trans ?_ (by assumption)))))) (by omega)).mono ?_)
      rintro e w4 ⟨A4, c4, rfl, O4⟩
      have HO4 := Lib.hid O4
      clear O4
      go_wp2
      go_ret
      exact RetO.root HK.out (by rw [HTL.out, hxl.out]) HX.out (by rw [HTL.out]; exact HO4.out)
    have hlt2 : (k : Int) < n := by omega
    have hk0 : (0 : Int) ≤ k := by omega
    have hkc : (k : Int) ≤ c := by omega
    have hk2 : ¬ (k : Int) = 0 := by omega
    have hk3 : ¬ k = 0 := by omega
    obtain ⟨r, hr⟩ : ∃ r : Nat, n % k = r := ⟨_, rfl⟩
    have hr1 : Int.tmod (n : Int) k = r := by rw [← hr]; rfl
    have HR := Lib.hid hr
    clear hr
    by_cases hr0 : r = 0
    · subst hr0
      have hr2 : Int.tmod (n : Int) k = 0 := hr1
      clear hr1
      obtain ⟨d, hd⟩ : ∃ d : Nat, n / k = d := ⟨_, rfl⟩
      have hdk : d * k = n := by rw [← hd]; exact Nat.div_mul_cancel (Nat.dvd_of_mod_eq_zero HR.out)
      have hd1 : d ≤ n := by rw [← hd]; exact Nat.div_le_self _ _
      have hq1 : Int.tdiv (n : Int) k = d := by rw [← hd]; rfl
      have hq2 : IntKind.i64.wrap (d : Int) = d := IntWalk.i64_in _ (by omega)
      have hq3 : IntKind.i64.wrap (Int.tdiv (n : Int) k) = d := by rw [hq1]; exact hq2
      have HTK : Hid (Ints wr (some ⟨b, off, none⟩) k (xs.take k)) := HI.out.take hk
      have HTL : Hid ((xs.take k).length = k) := by show _ = _; rw [List.length_take, hxl.out]; omega
      have HRL : Hid ((rpt (xs.take k) d).length = n) := by show _ = _; rw [rpt_len, HTL.out, hdk]
      have HRB : Hid (∀ y ∈ rpt (xs.take k) d, -9223372036854775808 ≤ y ∧ y ≤ 9223372036854775807) := fun y hy => hbd.out y (List.mem_of_mem_take (rpt_mem hy))
      have HD := Lib.hid hd
      have hdk2 : d * k ≤ 1000 := by omega
      clear hd hdk
      obtain ⟨v, hv⟩ : ∃ v, decide (rpt (xs.take k) d = xs) = v := ⟨_, rfl⟩
      have HV := Lib.hid hv
      clear hv
      cases v
      · have HB : Hid (isRt xs k = false) := by
          show _ = _
          unfold isRt
          rw [hxl.out, HD.out]
          exact decide_eq_false (fun h => of_decide_eq_false HV.out h.2)
        have hkn : k < n := by
          rcases Nat.lt_or_ge k n with h | h
          · exact h
          · have e : k = n := by omega
            have h1 := isRt_self (xs := xs) (by rw [hxl.out]; omega)
            rw [hxl.out, ← e, HB.out] at h1
            cases h1
        have HG2 : Hid (rtGo xs (n - (k + 1)) (k + 1) = rtk xs) := by
          show _ = _
          rw [← HG.out, show n - k = (n - (k + 1)) + 1 by omega, rtGo_no HB.out]
        go_wp2
        refine wp_region_any (by kernel_rfl) ?_
        (try (change wpAny _ _ _ _ _ _ _ (World.drew _)))
        refine wpAny_take (i := 0) (v := ?_) rfl (by kernel_rfl) (by kernel_rfl) (by kernel_rfl) (fun _ _ _ h => h) (Or.inl ⟨by rfl, ?hy27⟩) ?_
        case hy27 => ((intro w; go_simp); (try with_reducible rfl))
        (try simp only [List.getElem_toArray, List.getElem_cons_succ, List.getElem_cons_zero, Act.put, List.setIfInBounds_toArray, List.set_cons_zero, List.set_cons_succ])
        refine wpAny_take (i := 1) (v := ?_) rfl (by kernel_rfl) (by kernel_rfl) (by kernel_rfl) (fun _ _ _ h => h) (Or.inl ⟨by rfl, ?hy28⟩) ?_
        case hy28 => ((intro w; go_simp); (try with_reducible rfl))
        (try simp only [List.getElem_toArray, List.getElem_cons_succ, List.getElem_cons_zero, Act.put, List.setIfInBounds_toArray, List.set_cons_zero, List.set_cons_succ])
        refine wpAny_take (i := 2) (v := ?_) rfl (by kernel_rfl) (by kernel_rfl) (by kernel_rfl) (fun _ _ _ h => h) (Or.inl ⟨by rfl, ?hy29⟩) ?_
        case hy29 => ((intro w; go_simp); (try with_reducible rfl))
        (try simp only [List.getElem_toArray, List.getElem_cons_succ, List.getElem_cons_zero, Act.put, List.setIfInBounds_toArray, List.set_cons_zero, List.set_cons_succ])
        refine wpAny_take (i := 3) (v := ?_) rfl (by kernel_rfl) (by kernel_rfl) (by kernel_rfl) (fun _ _ _ h => h) (Or.inl ⟨by rfl, ?hy30⟩) ?_
        case hy30 => ((intro w; go_simp); (try with_reducible rfl))
        (try simp only [List.getElem_toArray, List.getElem_cons_succ, List.getElem_cons_zero, Act.put, List.setIfInBounds_toArray, List.set_cons_zero, List.set_cons_succ])
        refine wpAny_take (i := 4) (v := ?_) rfl (by kernel_rfl) (by kernel_rfl) (by kernel_rfl) (fun _ _ _ h => h) (Or.inl ⟨by rfl, ?hy31⟩) ?_
        case hy31 => ((intro w; go_simp); (try with_reducible rfl))
        (try simp only [List.getElem_toArray, List.getElem_cons_succ, List.getElem_cons_zero, Act.put, List.setIfInBounds_toArray, List.set_cons_zero, List.set_cons_succ])
        refine wpAny_take (i := 5) (v := ?_) rfl (by kernel_rfl) (by kernel_rfl) (by kernel_rfl) (fun _ _ _ h => h) (Or.inl ⟨by rfl, ?hy32⟩) ?_
        case hy32 => ((intro w; go_simp); (try with_reducible rfl))
        (try simp only [List.getElem_toArray, List.getElem_cons_succ, List.getElem_cons_zero, Act.put, List.setIfInBounds_toArray, List.set_cons_zero, List.set_cons_succ])
        refine wpAny_take (i := 6) (v := ?_) rfl (by kernel_rfl) (by kernel_rfl) (by kernel_rfl) (fun _ _ _ h => h) (Or.inl ⟨by rfl, ?hy33⟩) ?_
        case hy33 => ((intro w; go_simp); (try with_reducible rfl))
        (try simp only [List.getElem_toArray, List.getElem_cons_succ, List.getElem_cons_zero, Act.put, List.setIfInBounds_toArray, List.set_cons_zero, List.set_cons_succ])
        refine wpAny_take (i := 7) (v := ?_) rfl (by kernel_rfl) (by kernel_rfl) (by kernel_rfl) (fun _ _ _ h => h) (Or.inl ⟨by rfl, ?hy34⟩) ?_
        case hy34 => ((intro w; go_simp); (try with_reducible rfl))
        (try simp only [List.getElem_toArray, List.getElem_cons_succ, List.getElem_cons_zero, Act.put, List.setIfInBounds_toArray, List.set_cons_zero, List.set_cons_succ])
        refine wpAny_take (i := 8) (v := ?_) rfl (by kernel_rfl) (by kernel_rfl) (by kernel_rfl) (fun _ _ _ h => h) (Or.inl ⟨by rfl, ?hy35⟩) ?_
        case hy35 => ((intro w; go_simp); (try with_reducible rfl))
        (try simp only [List.getElem_toArray, List.getElem_cons_succ, List.getElem_cons_zero, Act.put, List.setIfInBounds_toArray, List.set_cons_zero, List.set_cons_succ])
        refine wpAny_take (i := 9) (v := ?_) rfl (by kernel_rfl) (by kernel_rfl) (by kernel_rfl) (fun _ _ _ h => h) (Or.inl ⟨by rfl, ?hy36⟩) ?_
        case hy36 => ((intro w; go_simp); (try with_reducible rfl))
        (try simp only [List.getElem_toArray, List.getElem_cons_succ, List.getElem_cons_zero, Act.put, List.setIfInBounds_toArray, List.set_cons_zero, List.set_cons_succ])
        refine wpAny_take (i := 10) (v := ?_) rfl (by kernel_rfl) (by kernel_rfl) (by kernel_rfl) (fun _ _ _ h => h) (Or.inl ⟨by rfl, ?hy37⟩) ?_
        case hy37 => ((intro w; go_simp); (try with_reducible rfl))
        (try simp only [List.getElem_toArray, List.getElem_cons_succ, List.getElem_cons_zero, Act.put, List.setIfInBounds_toArray, List.set_cons_zero, List.set_cons_succ])
        refine wpAny_take (i := 12) (v := ?_) rfl (by kernel_rfl) (by kernel_rfl) (by kernel_rfl) (fun _ _ _ h => h) (Or.inl ⟨by rfl, ?hy38⟩) ?_
        case hy38 => ((intro w; go_simp); (try with_reducible rfl))
        (try simp only [List.getElem_toArray, List.getElem_cons_succ, List.getElem_cons_zero, Act.put, List.setIfInBounds_toArray, List.set_cons_zero, List.set_cons_succ])
        refine wpAny_ready (rs := [11]) (by kernel_rfl) (by simp) ?_
        refine AllReady.cons rfl (fun K hK => ?_) AllReady.nil
        go_simp
        go_wp2_with (first | (go_at_call 65; (with_reducible refine (l03Repeat_any _ _ _ (xs.take k) d _ (HTK.out.ext (by with_reducible (repeat (first | exact Ext.refl _ | apply Ext.drewN | apply Ext.drew | apply Ext.alloc | (refine Ext.set ?_ (by first | (simp; done) | (simp; omega) | omega) _) | (refine Ext.trans ?_ (by assumption)))))) (by omega) (by omega)).mono ?_); rintro e w2 ⟨A2, c2, rfl, O2⟩; have hx2 : Ext wr w2 := (show Ext wr wr.drew from (Ext.refl _).drew).trans O2.ext; have I2 := Lib.hid (O2.ints (by rw [HRL.out]; omega) HRB.out)) | (go_at_call 32; (with_reducible refine (l00SameN_is _ _ _ _ _ _ (rpt (xs.take k) d) xs _ I2.out (HI.out.ext hx2) _ HV.out).mono ?_); rintro e w3 ⟨rfl, q3, rfl⟩))
        (try (refine hK _ _ ?_; clear hK K))
        (try simp only [List.getElem_toArray, List.getElem_cons_succ, List.getElem_cons_zero, Act.put, List.setIfInBounds_toArray, List.set_cons_zero, List.set_cons_succ])
        refine wpAny_ready (rs := [13]) (by kernel_rfl) (by simp) ?_
        refine AllReady.cons rfl (fun K hK => ?_) AllReady.nil
        go_simp
        go_wp2_with (first | (go_at_call 65; (with_reducible refine (l03Repeat_any _ _ _ (xs.take k) d _ (HTK.out.ext (by with_reducible (repeat (first | exact Ext.refl _ | apply Ext.drewN | apply Ext.drew | apply Ext.alloc | (refine Ext.set ?_ (by first | (simp; done) | (simp; omega) | omega) _) | (refine Ext.trans ?_ (by assumption)))))) (by omega) (by omega)).mono ?_); rintro e w2 ⟨A2, c2, rfl, O2⟩; have hx2 : Ext wr w2 := (show Ext wr wr.drew from (Ext.refl _).drew).trans O2.ext; have I2 := Lib.hid (O2.ints (by rw [HRL.out]; omega) HRB.out)) | (go_at_call 32; (with_reducible refine (l00SameN_is _ _ _ _ _ _ (rpt (xs.take k) d) xs _ I2.out (HI.out.ext hx2) _ HV.out).mono ?_); rintro e w3 ⟨rfl, q3, rfl⟩))
        (try (refine hK _ _ ?_; clear hK K))
        (try simp only [List.getElem_toArray, List.getElem_cons_succ, List.getElem_cons_zero, Act.put, List.setIfInBounds_toArray, List.set_cons_zero, List.set_cons_succ])
        refine wpAny_take (i := 14) (v := ?_) rfl (by kernel_rfl) (by kernel_rfl) (by kernel_rfl) (fun _ _ _ h => h) (Or.inl ⟨by rfl, ?hy39⟩) ?_
        case hy39 => ((intro w; go_simp); (try with_reducible rfl))
        (try simp only [List.getElem_toArray, List.getElem_cons_succ, List.getElem_cons_zero, Act.put, List.setIfInBounds_toArray, List.set_cons_zero, List.set_cons_succ])
        refine wpAny_done (by kernel_rfl) ?_ _
        have hx9 : Ext wr (w2.drewN q3) := hx2.trans ((Ext.refl _).drewN q3)
        clear O2 hx2
        go_wp2
        go_roundw
        case rel => exact ⟨k + 1, by omega, by omega, by go_num, HX.out.trans hx9, HG2⟩
        case measure => simp [intOf]; omega
      · have HB : Hid (isRt xs k = true) := by
          show _ = _
          unfold isRt
          rw [hxl.out, HD.out]
          exact decide_eq_true ⟨HR.out, of_decide_eq_true HV.out⟩
        have HK : Hid (rtl xs = xs.take k) := rtk_is HB.out HG.out
        go_wp2
        refine wp_region_any (by kernel_rfl) ?_
        (try (change wpAny _ _ _ _ _ _ _ (World.drew _)))
        refine wpAny_take (i := 0) (v := ?_) rfl (by kernel_rfl) (by kernel_rfl) (by kernel_rfl) (fun _ _ _ h => h) (Or.inl ⟨by rfl, ?hy40⟩) ?_
        case hy40 => ((intro w; go_simp); (try with_reducible rfl))
        (try simp only [List.getElem_toArray, List.getElem_cons_succ, List.getElem_cons_zero, Act.put, List.setIfInBounds_toArray, List.set_cons_zero, List.set_cons_succ])
        refine wpAny_take (i := 1) (v := ?_) rfl (by kernel_rfl) (by kernel_rfl) (by kernel_rfl) (fun _ _ _ h => h) (Or.inl ⟨by rfl, ?hy41⟩) ?_
        case hy41 => ((intro w; go_simp); (try with_reducible rfl))
        (try simp only [List.getElem_toArray, List.getElem_cons_succ, List.getElem_cons_zero, Act.put, List.setIfInBounds_toArray, List.set_cons_zero, List.set_cons_succ])
        refine wpAny_take (i := 2) (v := ?_) rfl (by kernel_rfl) (by kernel_rfl) (by kernel_rfl) (fun _ _ _ h => h) (Or.inl ⟨by rfl, ?hy42⟩) ?_
        case hy42 => ((intro w; go_simp); (try with_reducible rfl))
        (try simp only [List.getElem_toArray, List.getElem_cons_succ, List.getElem_cons_zero, Act.put, List.setIfInBounds_toArray, List.set_cons_zero, List.set_cons_succ])
        refine wpAny_take (i := 3) (v := ?_) rfl (by kernel_rfl) (by kernel_rfl) (by kernel_rfl) (fun _ _ _ h => h) (Or.inl ⟨by rfl, ?hy43⟩) ?_
        case hy43 => ((intro w; go_simp); (try with_reducible rfl))
        (try simp only [List.getElem_toArray, List.getElem_cons_succ, List.getElem_cons_zero, Act.put, List.setIfInBounds_toArray, List.set_cons_zero, List.set_cons_succ])
        refine wpAny_take (i := 4) (v := ?_) rfl (by kernel_rfl) (by kernel_rfl) (by kernel_rfl) (fun _ _ _ h => h) (Or.inl ⟨by rfl, ?hy44⟩) ?_
        case hy44 => ((intro w; go_simp); (try with_reducible rfl))
        (try simp only [List.getElem_toArray, List.getElem_cons_succ, List.getElem_cons_zero, Act.put, List.setIfInBounds_toArray, List.set_cons_zero, List.set_cons_succ])
        refine wpAny_take (i := 5) (v := ?_) rfl (by kernel_rfl) (by kernel_rfl) (by kernel_rfl) (fun _ _ _ h => h) (Or.inl ⟨by rfl, ?hy45⟩) ?_
        case hy45 => ((intro w; go_simp); (try with_reducible rfl))
        (try simp only [List.getElem_toArray, List.getElem_cons_succ, List.getElem_cons_zero, Act.put, List.setIfInBounds_toArray, List.set_cons_zero, List.set_cons_succ])
        refine wpAny_take (i := 6) (v := ?_) rfl (by kernel_rfl) (by kernel_rfl) (by kernel_rfl) (fun _ _ _ h => h) (Or.inl ⟨by rfl, ?hy46⟩) ?_
        case hy46 => ((intro w; go_simp); (try with_reducible rfl))
        (try simp only [List.getElem_toArray, List.getElem_cons_succ, List.getElem_cons_zero, Act.put, List.setIfInBounds_toArray, List.set_cons_zero, List.set_cons_succ])
        refine wpAny_take (i := 7) (v := ?_) rfl (by kernel_rfl) (by kernel_rfl) (by kernel_rfl) (fun _ _ _ h => h) (Or.inl ⟨by rfl, ?hy47⟩) ?_
        case hy47 => ((intro w; go_simp); (try with_reducible rfl))
        (try simp only [List.getElem_toArray, List.getElem_cons_succ, List.getElem_cons_zero, Act.put, List.setIfInBounds_toArray, List.set_cons_zero, List.set_cons_succ])
        refine wpAny_take (i := 8) (v := ?_) rfl (by kernel_rfl) (by kernel_rfl) (by kernel_rfl) (fun _ _ _ h => h) (Or.inl ⟨by rfl, ?hy48⟩) ?_
        case hy48 => ((intro w; go_simp); (try with_reducible rfl))
        (try simp only [List.getElem_toArray, List.getElem_cons_succ, List.getElem_cons_zero, Act.put, List.setIfInBounds_toArray, List.set_cons_zero, List.set_cons_succ])
        refine wpAny_take (i := 9) (v := ?_) rfl (by kernel_rfl) (by kernel_rfl) (by kernel_rfl) (fun _ _ _ h => h) (Or.inl ⟨by rfl, ?hy49⟩) ?_
        case hy49 => ((intro w; go_simp); (try with_reducible rfl))
        (try simp only [List.getElem_toArray, List.getElem_cons_succ, List.getElem_cons_zero, Act.put, List.setIfInBounds_toArray, List.set_cons_zero, List.set_cons_succ])
        refine wpAny_take (i := 10) (v := ?_) rfl (by kernel_rfl) (by kernel_rfl) (by kernel_rfl) (fun _ _ _ h => h) (Or.inl ⟨by rfl, ?hy50⟩) ?_
        case hy50 => ((intro w; go_simp); (try with_reducible rfl))
        (try simp only [List.getElem_toArray, List.getElem_cons_succ, List.getElem_cons_zero, Act.put, List.setIfInBounds_toArray, List.set_cons_zero, List.set_cons_succ])
        refine wpAny_take (i := 12) (v := ?_) rfl (by kernel_rfl) (by kernel_rfl) (by kernel_rfl) (fun _ _ _ h => h) (Or.inl ⟨by rfl, ?hy51⟩) ?_
        case hy51 => ((intro w; go_simp); (try with_reducible rfl))
        (try simp only [List.getElem_toArray, List.getElem_cons_succ, List.getElem_cons_zero, Act.put, List.setIfInBounds_toArray, List.set_cons_zero, List.set_cons_succ])
        refine wpAny_ready (rs := [11]) (by kernel_rfl) (by simp) ?_
        refine AllReady.cons rfl (fun K hK => ?_) AllReady.nil
        go_simp
        go_wp2_with (first | (go_at_call 65; (with_reducible refine (l03Repeat_any _ _ _ (xs.take k) d _ (HTK.out.ext (by with_reducible (repeat (first | exact Ext.refl _ | apply Ext.drewN | apply Ext.drew | apply Ext.alloc | (refine Ext.set ?_ (by first | (simp; done) | (simp; omega) | omega) _) | (refine Ext.trans ?_ (by assumption)))))) (by omega) (by omega)).mono ?_); rintro e w2 ⟨A2, c2, rfl, O2⟩; have hx2 : Ext wr w2 := (show Ext wr wr.drew from (Ext.refl _).drew).trans O2.ext; have I2 := Lib.hid (O2.ints (by rw [HRL.out]; omega) HRB.out)) | (go_at_call 32; (with_reducible refine (l00SameN_is _ _ _ _ _ _ (rpt (xs.take k) d) xs _ I2.out (HI.out.ext hx2) _ HV.out).mono ?_); rintro e w3 ⟨rfl, q3, rfl⟩))
        (try (refine hK _ _ ?_; clear hK K))
        (try simp only [List.getElem_toArray, List.getElem_cons_succ, List.getElem_cons_zero, Act.put, List.setIfInBounds_toArray, List.set_cons_zero, List.set_cons_succ])
        refine wpAny_ready (rs := [13]) (by kernel_rfl) (by simp) ?_
        refine AllReady.cons rfl (fun K hK => ?_) AllReady.nil
        go_simp
        go_wp2_with (first | (go_at_call 65; (with_reducible refine (l03Repeat_any _ _ _ (xs.take k) d _ (HTK.out.ext (by with_reducible (repeat (first | exact Ext.refl _ | apply Ext.drewN | apply Ext.drew | apply Ext.alloc | (refine Ext.set ?_ (by first | (simp; done) | (simp; omega) | omega) _) | (refine Ext.trans ?_ (by assumption)))))) (by omega) (by omega)).mono ?_); rintro e w2 ⟨A2, c2, rfl, O2⟩; have hx2 : Ext wr w2 := (show Ext wr wr.drew from (Ext.refl _).drew).trans O2.ext; have I2 := Lib.hid (O2.ints (by rw [HRL.out]; omega) HRB.out)) | (go_at_call 32; (with_reducible refine (l00SameN_is _ _ _ _ _ _ (rpt (xs.take k) d) xs _ I2.out (HI.out.ext hx2) _ HV.out).mono ?_); rintro e w3 ⟨rfl, q3, rfl⟩))
        (try (refine hK _ _ ?_; clear hK K))
        (try simp only [List.getElem_toArray, List.getElem_cons_succ, List.getElem_cons_zero, Act.put, List.setIfInBounds_toArray, List.set_cons_zero, List.set_cons_succ])
        refine wpAny_take (i := 14) (v := ?_) rfl (by kernel_rfl) (by kernel_rfl) (by kernel_rfl) (fun _ _ _ h => h) (Or.inl ⟨by rfl, ?hy52⟩) ?_
        case hy52 => ((intro w; go_simp); (try with_reducible rfl))
        (try simp only [List.getElem_toArray, List.getElem_cons_succ, List.getElem_cons_zero, Act.put, List.setIfInBounds_toArray, List.set_cons_zero, List.set_cons_succ])
        refine wpAny_done (by kernel_rfl) ?_ _
        have hx9 : Ext wr (w2.drewN q3) := hx2.trans ((Ext.refl _).drewN q3)
        have HX9 := Lib.hid hx9
        clear O2 hx2 hx9
        go_wp2_with fail
        (with_reducible refine (l00Own_any _ _ _ (xs.take k) _ (HTK.out.ext HX9.out) (by omega)).mono ?_)
        rintro e w4 ⟨A4, c4, rfl, O4⟩
        have HO4 := Lib.hid O4
        clear O4
        go_wp2
        go_ret
        exact RetO.root HK.out HTL.out (HX.out.trans HX9.out) HO4.out
    · have HB : Hid (isRt xs k = false) := by
        show _ = _
        unfold isRt
        rw [hxl.out]
        exact decide_eq_false (fun h => hr0 (by rw [← HR.out]; exact h.1))
      have hkn : k < n := by
        rcases Nat.lt_or_ge k n with h | h
        · exact h
        · have e : k = n := by omega
          have h1 := isRt_self (xs := xs) (by rw [hxl.out]; omega)
          rw [hxl.out, ← e, HB.out] at h1
          cases h1
      have HG2 : Hid (rtGo xs (n - (k + 1)) (k + 1) = rtk xs) := by
        show _ = _
        rw [← HG.out, show n - k = (n - (k + 1)) + 1 by omega, rtGo_no HB.out]
      have g1 : ((r : Int) == 0) = false := by simpa using hr0
      clear hr0
      go_wp2
      go_quiet (fail)
      go_wp2
      go_roundw
      case rel => exact ⟨k + 1, by omega, by omega, by go_num, HX.out.trans (by with_reducible (repeat (first | exact Ext.refl _ | apply Ext.drewN | apply Ext.drew | apply Ext.alloc | (refine Ext.set ?_ (by first | (simp; done) | (simp; omega) | omega) _) | (refine Ext.trans ?_ (by assumption))))), HG2⟩
      case measure => simp [intOf]; omega
set_option maxHeartbeats 2000000 in
theorem canonical_any (A : Option Addr) (n c : Nat) (xs : List Int) (w : World) (hI : Ints w A n xs) (hn : 1 ≤ n ∧ n ≤ 1000) (hc : n ≤ c) :
    Calls Try.prog 39 #[.slice A n c] w (RetI w (can xs)) := by
  have hxl := Lib.hid hI.len
  have hbd := Lib.hid hI.bds
  have hm0 := rtk_bd (xs := xs) (by rw [hI.len]; omega)
  rw [hI.len] at hm0
  have HRL : Hid ((rtl xs).length = rtk xs) := rtl_len (by rw [hI.len]; omega)
  obtain ⟨m, hm⟩ : ∃ m, rtk xs = m := ⟨_, rfl⟩
  rw [hm] at hm0 HRL
  obtain ⟨r, hr⟩ : ∃ r, rtl xs = r := ⟨_, rfl⟩
  rw [hr] at HRL
  have HRB : Hid (∀ y ∈ r, -9223372036854775808 ≤ y ∧ y ≤ 9223372036854775807) := fun y hy => hbd.out y (List.mem_of_mem_take (show y ∈ rtl xs by rw [hr]; exact hy))
  have HC : Hid (can xs = bst r m) := by show _ = _; unfold can; rw [hr, HRL.out]
  have HRR := Lib.hid hr
  clear hr hm
  go_enter Try.func39, Try.ntmps39
  go_wp2_with fail
  (with_reducible refine (root_any _ _ _ xs _ (hI.ext (by with_reducible (repeat (first | exact Ext.refl _ | apply Ext.drewN | apply Ext.drew | apply Ext.alloc | (refine Ext.set ?_ (by first | (simp; done) | (simp; omega) | omega) _) | (refine Ext.trans ?_ (by assumption)))))) hn hc).mono ?_)
  rw [HRR.out]
  rintro e w1 ⟨A1, c1, rfl, O1⟩
  rw [HRL.out] at O1
  have HL2 := HRL.out
  have HI1 := Lib.hid (O1.ints (by omega) HRB.out)
  have HX1 : Hid (Ext w w1) := Ext.trans (by with_reducible (repeat (first | exact Ext.refl _ | apply Ext.drewN | apply Ext.drew | apply Ext.alloc | (refine Ext.set ?_ (by first | (simp; done) | (simp; omega) | omega) _) | (refine Ext.trans ?_ (by assumption))))) O1.ext
  clear O1
  rw [HL2]
  clear HL2
  go_wp2_with (first | (go_at_call 56; (with_reducible refine (period_any _ _ _ _).mono ?_); rintro e w' ⟨rfl, rfl⟩) | fail)
  go_loopw [4, 12] (fun v i wr => ∃ k : Nat, 0 ≤ k ∧ k ≤ m ∧ i = .int .i64 k ∧ Ext w1 wr ∧ ∃ A2 c2, v = .slice A2 m c2 ∧ Hid (Ints wr A2 m (bst r k))) (fun _ i _ => m - (intOf i).toNat)
  case atStart => exact ⟨0, Nat.le_refl _, by omega, rfl, (by with_reducible (repeat (first | exact Ext.refl _ | apply Ext.drewN | apply Ext.drew | apply Ext.alloc | (refine Ext.set ?_ (by first | (simp; done) | (simp; omega) | omega) _) | (refine Ext.trans ?_ (by assumption))))), A1, c1, rfl, HI1⟩
  case round =>
    obtain ⟨k, hk0, hk, rfl, hxr, A2, c2, rfl, HB⟩ := hrel
    have HXR := Lib.hid hxr
    clear hxr
    by_cases hlt : k < m
    · have i1 : (k : Int) < m := by omega
      have HRT : Hid ((rot r k).length = m) := by show _ = _; rw [rot_len, HRL.out]
      have HRTB : Hid (∀ y ∈ rot r k, -9223372036854775808 ≤ y ∧ y ≤ 9223372036854775807) := fun y hy => HRB.out y (rot_mem2 hy)
      obtain ⟨z, hz⟩ : ∃ z, cmpL (rot r k) (bst r k) = z := ⟨_, rfl⟩
      have HZ := Lib.hid hz
      have hzb := cmpL_bd (rot r k) (bst r k)
      rw [hz] at hzb
      clear hz
      go_wp2_with fail
      (with_reducible refine (rotated_any _ _ _ r k _ (HI1.out.ext (HXR.out.trans (by with_reducible (repeat (first | exact Ext.refl _ | apply Ext.drewN | apply Ext.drew | apply Ext.alloc | (refine Ext.set ?_ (by first | (simp; done) | (simp; omega) | omega) _) | (refine Ext.trans ?_ (by assumption))))))) (by omega) (by omega)).mono ?_)
      rintro e w2 ⟨A3, c3, rfl, O3⟩
      rw [HRT.out] at O3
      rw [HRT.out]
      have HI3 := Lib.hid (O3.ints (by omega) HRTB.out)
      have HX3 : Hid (Ext wr w2) := Ext.trans (by with_reducible (repeat (first | exact Ext.refl _ | apply Ext.drewN | apply Ext.drew | apply Ext.alloc | (refine Ext.set ?_ (by first | (simp; done) | (simp; omega) | omega) _) | (refine Ext.trans ?_ (by assumption))))) O3.ext
      clear O3
      go_wp2_with fail
      (with_reducible refine (compareP_any _ _ m _ _ (rot r k) (bst r k) _ (HI3.out.ext (by with_reducible (repeat (first | exact Ext.refl _ | apply Ext.drewN | apply Ext.drew | apply Ext.alloc | (refine Ext.set ?_ (by first | (simp; done) | (simp; omega) | omega) _) | (refine Ext.trans ?_ (by assumption)))))) (HB.out.ext (HX3.out.trans (by with_reducible (repeat (first | exact Ext.refl _ | apply Ext.drewN | apply Ext.drew | apply Ext.alloc | (refine Ext.set ?_ (by first | (simp; done) | (simp; omega) | omega) _) | (refine Ext.trans ?_ (by assumption)))))))).mono ?_)
      rw [HZ.out]
      rintro e w3 ⟨rfl, q3, rfl⟩
      by_cases hp : 0 < z
      · have HS : Hid (bst r (k + 1) = rot r k) := by show (if 0 < cmpL (rot r k) (bst r k) then rot r k else bst r k) = _; rw [HZ.out, if_pos hp]
        go_wp2
        go_roundw
        case rel => exact ⟨k + 1, by omega, by omega, by go_num, HXR.out.trans (HX3.out.trans (by with_reducible (repeat (first | exact Ext.refl _ | apply Ext.drewN | apply Ext.drew | apply Ext.alloc | (refine Ext.set ?_ (by first | (simp; done) | (simp; omega) | omega) _) | (refine Ext.trans ?_ (by assumption)))))), A3, c3, rfl, Lib.hid (by rw [HS.out]; exact HI3.out.ext (by with_reducible (repeat (first | exact Ext.refl _ | apply Ext.drewN | apply Ext.drew | apply Ext.alloc | (refine Ext.set ?_ (by first | (simp; done) | (simp; omega) | omega) _) | (refine Ext.trans ?_ (by assumption))))))⟩
        case measure => simp [intOf]; omega
      · have HS : Hid (bst r (k + 1) = bst r k) := by show (if 0 < cmpL (rot r k) (bst r k) then rot r k else bst r k) = _; rw [HZ.out, if_neg hp]
        go_wp2
        go_roundw
        case rel => exact ⟨k + 1, by omega, by omega, by go_num, HXR.out.trans (HX3.out.trans (by with_reducible (repeat (first | exact Ext.refl _ | apply Ext.drewN | apply Ext.drew | apply Ext.alloc | (refine Ext.set ?_ (by first | (simp; done) | (simp; omega) | omega) _) | (refine Ext.trans ?_ (by assumption)))))), A2, c2, rfl, Lib.hid (by rw [HS.out]; exact HB.out.ext (HX3.out.trans (by with_reducible (repeat (first | exact Ext.refl _ | apply Ext.drewN | apply Ext.drew | apply Ext.alloc | (refine Ext.set ?_ (by first | (simp; done) | (simp; omega) | omega) _) | (refine Ext.trans ?_ (by assumption)))))))⟩
        case measure => simp [intOf]; omega
    · obtain rfl : k = m := by omega
      have HF : Hid (RetI w (can xs) (.returned (.slice A2 k c2)) wr) := by
        have h1 : (bst r k).length = k := by rw [bst_len, HRL.out]
        rw [HC.out]
        exact ⟨A2, c2, by rw [h1], HX1.out.trans HXR.out, by rw [h1]; exact HB.out⟩
      go_wp2
      go_ret
      exact HF.out
set_option maxHeartbeats 2000000 in
theorem l03Canon_any (A : Option Addr) (n c : Nat) (xs : List Int) (w : World) (hI : Ints w A n xs) (hn : 1 ≤ n ∧ n ≤ 1000) (hc : n ≤ c) :
    Calls Try.prog 26 #[.slice A n c] w (RetI w (can xs)) := by
  have hxl := Lib.hid hI.len
  have hbd := Lib.hid hI.bds
  have hm0 := rtk_bd (xs := xs) (by rw [hI.len]; omega)
  rw [hI.len] at hm0
  have HRL : Hid ((rtl xs).length = rtk xs) := rtl_len (by rw [hI.len]; omega)
  obtain ⟨m, hm⟩ : ∃ m, rtk xs = m := ⟨_, rfl⟩
  rw [hm] at hm0 HRL
  obtain ⟨r, hr⟩ : ∃ r, rtl xs = r := ⟨_, rfl⟩
  rw [hr] at HRL
  have HRB : Hid (∀ y ∈ r, -9223372036854775808 ≤ y ∧ y ≤ 9223372036854775807) := fun y hy => hbd.out y (List.mem_of_mem_take (show y ∈ rtl xs by rw [hr]; exact hy))
  have HC : Hid (can xs = bst r m) := by show _ = _; unfold can; rw [hr, HRL.out]
  have HRR := Lib.hid hr
  clear hr hm
  go_enter Try.func26, Try.ntmps26
  go_wp2_with fail
  (with_reducible refine (l03Root_any _ _ _ xs _ (hI.ext (by with_reducible (repeat (first | exact Ext.refl _ | apply Ext.drewN | apply Ext.drew | apply Ext.alloc | (refine Ext.set ?_ (by first | (simp; done) | (simp; omega) | omega) _) | (refine Ext.trans ?_ (by assumption)))))) hn hc).mono ?_)
  rw [HRR.out]
  rintro e w1 ⟨A1, c1, rfl, O1⟩
  rw [HRL.out] at O1
  have HL2 := HRL.out
  have HI1 := Lib.hid (O1.ints (by omega) HRB.out)
  have HX1 : Hid (Ext w w1) := Ext.trans (by with_reducible (repeat (first | exact Ext.refl _ | apply Ext.drewN | apply Ext.drew | apply Ext.alloc | (refine Ext.set ?_ (by first | (simp; done) | (simp; omega) | omega) _) | (refine Ext.trans ?_ (by assumption))))) O1.ext
  clear O1
  rw [HL2]
  clear HL2
  go_wp2_with (first | fail)
  go_loopw [4, 5] (fun v i wr => ∃ k : Nat, 1 ≤ k ∧ k ≤ m ∧ i = .int .i64 k ∧ Ext w1 wr ∧ ∃ A2 c2, v = .slice A2 m c2 ∧ Hid (Ints wr A2 m (bst r k))) (fun _ i _ => m - (intOf i).toNat)
  case atStart => exact ⟨1, Nat.le_refl _, by omega, rfl, (by with_reducible (repeat (first | exact Ext.refl _ | apply Ext.drewN | apply Ext.drew | apply Ext.alloc | (refine Ext.set ?_ (by first | (simp; done) | (simp; omega) | omega) _) | (refine Ext.trans ?_ (by assumption))))), A1, c1, rfl, by rw [bst_one]; exact HI1⟩
  case round =>
    obtain ⟨k, hk0, hk, rfl, hxr, A2, c2, rfl, HB⟩ := hrel
    have HXR := Lib.hid hxr
    clear hxr
    by_cases hlt : k < m
    · have i1 : (k : Int) < m := by omega
      have HRT : Hid ((rot r k).length = m) := by show _ = _; rw [rot_len, HRL.out]
      have HRTB : Hid (∀ y ∈ rot r k, -9223372036854775808 ≤ y ∧ y ≤ 9223372036854775807) := fun y hy => HRB.out y (rot_mem2 hy)
      obtain ⟨z, hz⟩ : ∃ z, cmpL (rot r k) (bst r k) = z := ⟨_, rfl⟩
      have HZ := Lib.hid hz
      have hzb := cmpL_bd (rot r k) (bst r k)
      rw [hz] at hzb
      clear hz
      go_wp2_with fail
      (with_reducible refine (l03Rotate_any _ _ _ r k _ (HI1.out.ext (HXR.out.trans (by with_reducible (repeat (first | exact Ext.refl _ | apply Ext.drewN | apply Ext.drew | apply Ext.alloc | (refine Ext.set ?_ (by first | (simp; done) | (simp; omega) | omega) _) | (refine Ext.trans ?_ (by assumption))))))) (by omega) (by omega)).mono ?_)
      rintro e w2 ⟨A3, c3, rfl, O3⟩
      rw [HRT.out] at O3
      rw [HRT.out]
      have HI3 := Lib.hid (O3.ints (by omega) HRTB.out)
      have HX3 : Hid (Ext wr w2) := Ext.trans (by with_reducible (repeat (first | exact Ext.refl _ | apply Ext.drewN | apply Ext.drew | apply Ext.alloc | (refine Ext.set ?_ (by first | (simp; done) | (simp; omega) | omega) _) | (refine Ext.trans ?_ (by assumption))))) O3.ext
      clear O3
      go_wp2_with fail
      (with_reducible refine (l02Compare_any _ _ m _ _ (rot r k) (bst r k) _ (HI3.out.ext (by with_reducible (repeat (first | exact Ext.refl _ | apply Ext.drewN | apply Ext.drew | apply Ext.alloc | (refine Ext.set ?_ (by first | (simp; done) | (simp; omega) | omega) _) | (refine Ext.trans ?_ (by assumption)))))) (HB.out.ext (HX3.out.trans (by with_reducible (repeat (first | exact Ext.refl _ | apply Ext.drewN | apply Ext.drew | apply Ext.alloc | (refine Ext.set ?_ (by first | (simp; done) | (simp; omega) | omega) _) | (refine Ext.trans ?_ (by assumption)))))))).mono ?_)
      rw [HZ.out]
      rintro e w3 ⟨rfl, q3, rfl⟩
      by_cases hp : 0 < z
      · have HS : Hid (bst r (k + 1) = rot r k) := by show (if 0 < cmpL (rot r k) (bst r k) then rot r k else bst r k) = _; rw [HZ.out, if_pos hp]
        go_wp2
        go_roundw
        case rel => exact ⟨k + 1, by omega, by omega, by go_num, HXR.out.trans (HX3.out.trans (by with_reducible (repeat (first | exact Ext.refl _ | apply Ext.drewN | apply Ext.drew | apply Ext.alloc | (refine Ext.set ?_ (by first | (simp; done) | (simp; omega) | omega) _) | (refine Ext.trans ?_ (by assumption)))))), A3, c3, rfl, Lib.hid (by rw [HS.out]; exact HI3.out.ext (by with_reducible (repeat (first | exact Ext.refl _ | apply Ext.drewN | apply Ext.drew | apply Ext.alloc | (refine Ext.set ?_ (by first | (simp; done) | (simp; omega) | omega) _) | (refine Ext.trans ?_ (by assumption))))))⟩
        case measure => simp [intOf]; omega
      · have HS : Hid (bst r (k + 1) = bst r k) := by show (if 0 < cmpL (rot r k) (bst r k) then rot r k else bst r k) = _; rw [HZ.out, if_neg hp]
        go_wp2
        go_roundw
        case rel => exact ⟨k + 1, by omega, by omega, by go_num, HXR.out.trans (HX3.out.trans (by with_reducible (repeat (first | exact Ext.refl _ | apply Ext.drewN | apply Ext.drew | apply Ext.alloc | (refine Ext.set ?_ (by first | (simp; done) | (simp; omega) | omega) _) | (refine Ext.trans ?_ (by assumption)))))), A2, c2, rfl, Lib.hid (by rw [HS.out]; exact HB.out.ext (HX3.out.trans (by with_reducible (repeat (first | exact Ext.refl _ | apply Ext.drewN | apply Ext.drew | apply Ext.alloc | (refine Ext.set ?_ (by first | (simp; done) | (simp; omega) | omega) _) | (refine Ext.trans ?_ (by assumption)))))))⟩
        case measure => simp [intOf]; omega
    · obtain rfl : k = m := by omega
      have HF : Hid (RetI w (can xs) (.returned (.slice A2 k c2)) wr) := by
        have h1 : (bst r k).length = k := by rw [bst_len, HRL.out]
        rw [HC.out]
        exact ⟨A2, c2, by rw [h1], HX1.out.trans HXR.out, by rw [h1]; exact HB.out⟩
      go_wp2
      go_ret
      exact HF.out
end Go.Proofs.Ytbldhfmhipdniaa
