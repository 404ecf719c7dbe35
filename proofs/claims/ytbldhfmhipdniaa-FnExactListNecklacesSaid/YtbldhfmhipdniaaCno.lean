/- Repetitions, rotations and the order of lists of numbers: plain laws, and the contracts of repeated, rotated, ComparePatterns. No condition but the stated bounds. -/
import Derived.Test.YtbldhfmhipdniaaMea
import Derived.Test.YtbldhfmhipdniaaApi
import Derived.Test.YtbldhfmhipdniaaLow
namespace Go.Proofs.Ytbldhfmhipdniaa
set_option linter.unusedVariables false
set_option linter.unusedSimpArgs false
open Go.RowKit Go.Joins

/-- A list that is repeated. -/
def rpt (xs : List Int) : Nat → List Int
  | 0 => []
  | k + 1 => rpt xs k ++ xs
theorem rpt_len (xs : List Int) : ∀ k, (rpt xs k).length = k * xs.length
  | 0 => by simp [rpt]
  | k + 1 => by rw [rpt, List.length_append, rpt_len xs k, Nat.succ_mul]
theorem rpt_mem {xs : List Int} {y : Int} : ∀ {k}, y ∈ rpt xs k → y ∈ xs
  | 0, h => by simp [rpt] at h
  | k + 1, h => by
    rw [rpt, List.mem_append] at h
    rcases h with h | h
    · exact rpt_mem h
    · exact h
/-- k throws are repeated as the list. -/
def isRt (xs : List Int) (k : Nat) : Bool := decide (xs.length % k = 0 ∧ rpt (xs.take k) (xs.length / k) = xs)
def rtGo (xs : List Int) : Nat → Nat → Nat
  | 0, k => k
  | f + 1, k => if isRt xs k = true then k else rtGo xs f (k + 1)
/-- The length of the shortest list that is repeated. -/
def rtk (xs : List Int) : Nat := rtGo xs (xs.length - 1) 1
def rtl (xs : List Int) : List Int := xs.take (rtk xs)
theorem rtGo_bd (xs : List Int) : ∀ f k, k ≤ rtGo xs f k ∧ rtGo xs f k ≤ k + f
  | 0, k => ⟨Nat.le_refl _, Nat.le_refl _⟩
  | f + 1, k => by
    unfold rtGo
    split
    · omega
    · have := rtGo_bd xs f (k + 1); omega
theorem rtk_bd {xs : List Int} (h : 1 ≤ xs.length) : 1 ≤ rtk xs ∧ rtk xs ≤ xs.length := by
  have := rtGo_bd xs (xs.length - 1) 1
  unfold rtk
  omega
theorem rtl_len {xs : List Int} (h : 1 ≤ xs.length) : (rtl xs).length = rtk xs := by
  unfold rtl
  rw [List.length_take]
  have := rtk_bd h
  omega
theorem isRt_self {xs : List Int} (h : 1 ≤ xs.length) : isRt xs xs.length = true := by
  unfold isRt
  rw [decide_eq_true]
  refine ⟨Nat.mod_self _, ?_⟩
  rw [Nat.div_self (by omega), List.take_length]
  simp [rpt]
theorem rtGo_yes {xs : List Int} {k : Nat} (h : isRt xs k = true) : ∀ f, rtGo xs f k = k
  | 0 => rfl
  | f + 1 => if_pos h
theorem rtGo_no {xs : List Int} {k f : Nat} (h : isRt xs k = false) : rtGo xs (f + 1) k = rtGo xs f (k + 1) := if_neg (by rw [h]; simp)
/-- A list that begins later. -/
def rot (xs : List Int) (b : Nat) : List Int := (List.range xs.length).map fun (i : Nat) => thAt xs ((i : Int) + b)
theorem rot_len (xs : List Int) (b : Nat) : (rot xs b).length = xs.length := by simp [rot]
theorem rot_get {xs : List Int} (b : Nat) {k : Nat} (h : k < xs.length) : (rot xs b)[k]? = some (thAt xs ((k : Int) + b)) := by simp [rot, h]
theorem rot_succ {xs : List Int} (b : Nat) {k : Nat} (h : k < xs.length) : (rot xs b).take (k + 1) = (rot xs b).take k ++ [thAt xs ((k : Int) + b)] := by
  rw [List.take_add_one, rot_get b h]
  rfl
theorem thAt_small {xs : List Int} {k : Nat} (h : k < xs.length) : thAt xs (k : Int) = xs[k]?.getD 0 := by
  unfold thAt
  rw [Int.emod_eq_of_lt (by omega) (by omega), Int.toNat_natCast]
theorem rot_zero (xs : List Int) : rot xs 0 = xs := by
  apply List.ext_getElem?
  intro i
  by_cases h : i < xs.length
  · rw [rot_get 0 h, show ((i : Int) + (0 : Nat)) = (i : Int) by omega, thAt_small h, List.getElem?_eq_getElem h]
    rfl
  · rw [List.getElem?_eq_none (by rw [rot_len]; omega), List.getElem?_eq_none (by omega)]
theorem thAt_mem {xs : List Int} (h : 1 ≤ xs.length) (t : Int) : thAt xs t ∈ xs := by
  unfold thAt
  have e1 := Int.emod_nonneg t (show (xs.length : Int) ≠ 0 by omega)
  have e2 := Int.emod_lt_of_pos t (show 0 < (xs.length : Int) by omega)
  rw [List.getElem?_eq_getElem (by omega)]
  exact List.getElem_mem _
theorem rot_mem2 {xs : List Int} {b : Nat} {y : Int} (hy : y ∈ rot xs b) : y ∈ xs := by
  unfold rot at hy
  simp only [List.mem_map, List.mem_range] at hy
  obtain ⟨i, hi, rfl⟩ := hy
  exact thAt_mem (by omega) _
/-- The order of lists of equal lengths. -/
def cmpL : List Int → List Int → Int
  | x :: xs, y :: ys => if x < y then -1 else if y < x then 1 else cmpL xs ys
  | _, _ => 0
theorem cmpL_self : ∀ xs : List Int, cmpL xs xs = 0
  | [] => rfl
  | x :: xs => by unfold cmpL; rw [if_neg (by omega), if_neg (by omega)]; exact cmpL_self xs
theorem drop_at {xs : List Int} {k : Nat} (h : k < xs.length) : xs.drop k = (xs[k]?.getD 0) :: xs.drop (k + 1) := by
  rw [List.drop_eq_getElem_cons h, List.getElem?_eq_getElem h]
  rfl
theorem cmpL_bd : ∀ xs ys : List Int, -1 ≤ cmpL xs ys ∧ cmpL xs ys ≤ 1
  | [], _ => by simp [cmpL]
  | _ :: _, [] => by simp [cmpL]
  | x :: xs, y :: ys => by
    unfold cmpL
    have := cmpL_bd xs ys
    split
    · omega
    · split <;> omega
/-- The greatest of a list and its rotations by less than k. -/
def bst (r : List Int) : Nat → List Int
  | 0 => r
  | k + 1 => if 0 < cmpL (rot r k) (bst r k) then rot r k else bst r k
theorem bst_len (r : List Int) : ∀ k, (bst r k).length = r.length
  | 0 => rfl
  | k + 1 => by
    unfold bst
    split
    · exact rot_len _ _
    · exact bst_len r k
theorem bst_one (r : List Int) : bst r 1 = r := by
  show (if 0 < cmpL (rot r 0) r then rot r 0 else r) = r
  rw [rot_zero, cmpL_self]
  rfl
theorem bst_mem {r : List Int} {y : Int} : ∀ {k}, y ∈ bst r k → y ∈ r
  | 0, h => h
  | k + 1, h => by
    unfold bst at h
    split at h
    · exact rot_mem2 h
    · exact bst_mem h
def can (xs : List Int) : List Int := bst (rtl xs) (rtl xs).length
theorem can_len {xs : List Int} (h : 1 ≤ xs.length) : (can xs).length = rtk xs := by
  unfold can
  rw [bst_len, rtl_len h]
theorem can_mem {xs : List Int} {y : Int} (h : y ∈ can xs) : y ∈ xs := List.mem_of_mem_take (bst_mem h)
/-- A slice of numbers is handed back that lies in new memory. -/
def RetO (w : World) (ys : List Int) (e : Ending) (w' : World) : Prop :=
  ∃ A c, e = .returned (.slice A ys.length c) ∧ OwnR 2 1 w w' (.slice A ys.length c) ys.length ys
theorem OwnR.ints {w w' : World} {A : Option Addr} {n c : Nat} {xs : List Int} (h : OwnR 2 1 w w' (.slice A n c) n xs) (hn : n ≤ 9223372036854775807) (hb : ∀ x ∈ xs, -9223372036854775808 ≤ x ∧ x ≤ 9223372036854775807) : Ints w' A n xs := Ints.of_own h.own hn hb
theorem qt3 (w : World) (a b c : Nat) : Qt w (((w.drewN a).drewN b).drewN c) := ⟨_, by rw [World.drewN_drewN, World.drewN_drewN]⟩
theorem l02At_n (A : Option Addr) (n c : Nat) (xs : List Int) (t : Int) (w : World) (hI : Ints w A n xs) (hn : 1 ≤ n ∧ n ≤ 1000) :
    Calls Try.prog 67 #[.slice A n c, .int .i64 t] w fun e w' => e = .returned (.int .i64 (thAt xs t)) ∧ w = w' := by
  have e1 := Int.emod_nonneg t (show (n : Int) ≠ 0 by omega)
  have e2 := Int.emod_lt_of_pos t (show 0 < (n : Int) by omega)
  obtain ⟨j, hj⟩ : ∃ j : Nat, t % (n : Int) = j := ⟨_, (Int.toNat_of_nonneg e1).symm⟩
  rw [hj] at e2
  obtain ⟨b, off, hA, hb, hcell⟩ := hI.at_ (by omega)
  subst hA
  have hc := hcell j (by omega)
  have HR : Hid (xs[j]?.getD 0 = thAt xs t) := by show _ = _; unfold thAt; rw [hI.len, hj]; rfl
  have HJ := Lib.hid hj
  clear hcell hj e1
  go_enter Try.func67, Try.ntmps67
  go_wp2_with (first | (go_at_call 87; (with_reducible refine (l02Mod_is _ _ _ _ (by omega) (by omega) HJ.out).mono ?_); rintro e w' ⟨rfl, rfl⟩))
  go_ret
  exact ⟨ret_int HR.out, rfl⟩
theorem throwAt_n (A : Option Addr) (n c : Nat) (xs : List Int) (t : Int) (w : World) (hI : Ints w A n xs) (hn : 1 ≤ n ∧ n ≤ 1000) :
    Calls Try.prog 72 #[.slice A n c, .int .i64 t] w fun e w' => e = .returned (.int .i64 (thAt xs t)) ∧ w = w' := by
  have e1 := Int.emod_nonneg t (show (n : Int) ≠ 0 by omega)
  have e2 := Int.emod_lt_of_pos t (show 0 < (n : Int) by omega)
  obtain ⟨j, hj⟩ : ∃ j : Nat, t % (n : Int) = j := ⟨_, (Int.toNat_of_nonneg e1).symm⟩
  rw [hj] at e2
  obtain ⟨b, off, hA, hb, hcell⟩ := hI.at_ (by omega)
  subst hA
  have hc := hcell j (by omega)
  have HR : Hid (xs[j]?.getD 0 = thAt xs t) := by show _ = _; unfold thAt; rw [hI.len, hj]; rfl
  have HJ := Lib.hid hj
  clear hcell hj e1
  go_enter Try.func72, Try.ntmps72
  go_wp2_with (first | (go_at_call 56; (with_reducible refine (period_any _ _ _ _).mono ?_); rintro e w' ⟨rfl, rfl⟩) | (go_at_call 89; (with_reducible refine (modulo_is _ _ _ _ (by omega) (by omega) HJ.out).mono ?_); rintro e w' ⟨rfl, rfl⟩))
  go_ret
  exact ⟨ret_int HR.out, rfl⟩
set_option maxHeartbeats 1000000 in
theorem compareP_any (A B : Option Addr) (n c d : Nat) (xs ys : List Int) (w : World) (hI : Ints w A n xs) (hJ : Ints w B n ys) :
    Calls Try.prog 45 #[.slice A n c, .slice B n d] w fun e w' => e = .returned (.int .i64 (cmpL xs ys)) ∧ Qt w w' := by
  have hs := hI.small
  have hxl := Lib.hid hI.len
  have hyl := Lib.hid hJ.len
  go_enter Try.func45, Try.ntmps45
  go_wp2
  go_loopw [20] (fun i wr => ∃ k : Nat, k ≤ n ∧ i = .int .i64 k ∧ Qt w wr ∧ Hid (cmpL xs ys = cmpL (xs.drop k) (ys.drop k))) (fun i _ => n - (intOf i).toNat)
  case atStart => exact ⟨0, Nat.zero_le _, rfl, Qt.refl _, Lib.hid rfl⟩
  case round =>
    obtain ⟨k, hk, rfl, ⟨q, rfl⟩, HE⟩ := hrel
    by_cases hlt : k < n
    · obtain ⟨b, off, hA, hb, hcell⟩ := hI.at_ (by omega)
      obtain ⟨b2, off2, hB, hb2, hcell2⟩ := hJ.at_ (by omega)
      subst hA hB
      have c1 := hcell k hlt
      have c2 := hcell2 k hlt
      have i1 : (k : Int) < n := by omega
      have HD : Hid (cmpL xs ys = cmpL ((xs[k]?.getD 0) :: xs.drop (k + 1)) ((ys[k]?.getD 0) :: ys.drop (k + 1))) := by
        show _ = _
        rw [HE.out, drop_at (xs := xs) (k := k) (by rw [hxl.out]; exact hlt), drop_at (xs := ys) (k := k) (by rw [hyl.out]; exact hlt)]
      generalize xs[k]?.getD 0 = x at c1 HD
      generalize ys[k]?.getD 0 = y at c2 HD
      clear hcell hcell2 HE
      by_cases h1 : x < y
      · have HR : Hid (cmpL xs ys = -1) := by show _ = _; rw [HD.out]; exact if_pos h1
        have g1 : decide (x < y) = true := decide_eq_true h1
        clear HD h1
        go_wp2
        go_quiet (fail)
        go_wp2
        go_ret
        exact ⟨ret_int HR.out.symm, (by first | exact ⟨_, rfl⟩ | exact ⟨_, World.drewN_drewN _ _ _⟩ | exact qt3 _ _ _ _)⟩
      · have g1 : decide (x < y) = false := decide_eq_false h1
        by_cases h2 : y < x
        · have HR : Hid (cmpL xs ys = 1) := by show _ = _; rw [HD.out]; unfold cmpL; rw [if_neg h1, if_pos h2]
          have g2 : decide (y < x) = true := decide_eq_true h2
          clear HD h1 h2
          go_wp2
          go_quiet (fail)
          go_wp2
          go_quiet (fail)
          go_wp2
          go_ret
          exact ⟨ret_int HR.out.symm, (by first | exact ⟨_, rfl⟩ | exact ⟨_, World.drewN_drewN _ _ _⟩ | exact qt3 _ _ _ _)⟩
        · have HR : Hid (cmpL xs ys = cmpL (xs.drop (k + 1)) (ys.drop (k + 1))) := by show _ = _; rw [HD.out]; conv => (lhs; unfold cmpL); rw [if_neg h1, if_neg h2]
          have g2 : decide (y < x) = false := decide_eq_false h2
          clear HD h1 h2
          go_wp2
          go_quiet (fail)
          go_wp2
          go_quiet (fail)
          go_wp2
          go_roundw
          case rel => exact ⟨k + 1, by omega, by go_num, (by first | exact ⟨_, rfl⟩ | exact ⟨_, World.drewN_drewN _ _ _⟩ | exact qt3 _ _ _ _), HR⟩
          case measure => simp [intOf]; omega
    · obtain rfl : k = n := by omega
      have HR : Hid (cmpL xs ys = 0) := by
        show _ = _
        rw [HE.out, List.drop_of_length_le (by rw [hxl.out]; exact Nat.le_refl _)]
        rfl
      go_wp2
      go_ret
      exact ⟨ret_int HR.out.symm, (by first | exact ⟨_, rfl⟩ | exact ⟨_, World.drewN_drewN _ _ _⟩ | exact qt3 _ _ _ _)⟩
set_option maxHeartbeats 1000000 in
theorem l02Compare_any (A B : Option Addr) (n c d : Nat) (xs ys : List Int) (w : World) (hI : Ints w A n xs) (hJ : Ints w B n ys) :
    Calls Try.prog 30 #[.slice A n c, .slice B n d] w fun e w' => e = .returned (.int .i64 (cmpL xs ys)) ∧ Qt w w' := by
  have hs := hI.small
  have hxl := Lib.hid hI.len
  have hyl := Lib.hid hJ.len
  go_enter Try.func30, Try.ntmps30
  go_wp2
  go_loopw [5] (fun i wr => ∃ k : Nat, k ≤ n ∧ i = .int .i64 k ∧ Qt w wr ∧ Hid (cmpL xs ys = cmpL (xs.drop k) (ys.drop k))) (fun i _ => n - (intOf i).toNat)
  case atStart => exact ⟨0, Nat.zero_le _, rfl, Qt.refl _, Lib.hid rfl⟩
  case round =>
    obtain ⟨k, hk, rfl, ⟨q, rfl⟩, HE⟩ := hrel
    by_cases hlt : k < n
    · obtain ⟨b, off, hA, hb, hcell⟩ := hI.at_ (by omega)
      obtain ⟨b2, off2, hB, hb2, hcell2⟩ := hJ.at_ (by omega)
      subst hA hB
      have c1 := hcell k hlt
      have c2 := hcell2 k hlt
      have i1 : (k : Int) < n := by omega
      have HD : Hid (cmpL xs ys = cmpL ((xs[k]?.getD 0) :: xs.drop (k + 1)) ((ys[k]?.getD 0) :: ys.drop (k + 1))) := by
        show _ = _
        rw [HE.out, drop_at (xs := xs) (k := k) (by rw [hxl.out]; exact hlt), drop_at (xs := ys) (k := k) (by rw [hyl.out]; exact hlt)]
      generalize xs[k]?.getD 0 = x at c1 HD
      generalize ys[k]?.getD 0 = y at c2 HD
      clear hcell hcell2 HE
      by_cases h1 : x < y
      · have HR : Hid (cmpL xs ys = -1) := by show _ = _; rw [HD.out]; exact if_pos h1
        have g1 : decide (x < y) = true := decide_eq_true h1
        clear HD h1
        go_wp2
        go_quiet (fail)
        go_wp2
        go_ret
        exact ⟨ret_int HR.out.symm, (by first | exact ⟨_, rfl⟩ | exact ⟨_, World.drewN_drewN _ _ _⟩ | exact qt3 _ _ _ _)⟩
      · have g1 : decide (x < y) = false := decide_eq_false h1
        by_cases h2 : y < x
        · have HR : Hid (cmpL xs ys = 1) := by show _ = _; rw [HD.out]; unfold cmpL; rw [if_neg h1, if_pos h2]
          have g2 : decide (y < x) = true := decide_eq_true h2
          clear HD h1 h2
          go_wp2
          go_quiet (fail)
          go_wp2
          go_quiet (fail)
          go_wp2
          go_ret
          exact ⟨ret_int HR.out.symm, (by first | exact ⟨_, rfl⟩ | exact ⟨_, World.drewN_drewN _ _ _⟩ | exact qt3 _ _ _ _)⟩
        · have HR : Hid (cmpL xs ys = cmpL (xs.drop (k + 1)) (ys.drop (k + 1))) := by show _ = _; rw [HD.out]; conv => (lhs; unfold cmpL); rw [if_neg h1, if_neg h2]
          have g2 : decide (y < x) = false := decide_eq_false h2
          clear HD h1 h2
          go_wp2
          go_quiet (fail)
          go_wp2
          go_quiet (fail)
          go_wp2
          go_roundw
          case rel => exact ⟨k + 1, by omega, by go_num, (by first | exact ⟨_, rfl⟩ | exact ⟨_, World.drewN_drewN _ _ _⟩ | exact qt3 _ _ _ _), HR⟩
          case measure => simp [intOf]; omega
    · obtain rfl : k = n := by omega
      have HR : Hid (cmpL xs ys = 0) := by
        show _ = _
        rw [HE.out, List.drop_of_length_le (by rw [hxl.out]; exact Nat.le_refl _)]
        rfl
      go_wp2
      go_ret
      exact ⟨ret_int HR.out.symm, (by first | exact ⟨_, rfl⟩ | exact ⟨_, World.drewN_drewN _ _ _⟩ | exact qt3 _ _ _ _)⟩
set_option maxHeartbeats 1000000 in
theorem rotated_any (A : Option Addr) (n c : Nat) (xs : List Int) (b : Nat) (w : World) (hI : Ints w A n xs) (hn : 1 ≤ n ∧ n ≤ 1000) (hb : b ≤ 1000) :
    Calls Try.prog 57 #[.slice A n c, .int .i64 (b : Int)] w (RetO w (rot xs b)) := by
  have hxl := Lib.hid hI.len
  have hE := Lib.hid (ownR_empty (Ext.refl w) 2 1)
  have HT0 : Hid (∀ (wr : World) (v : Value), OwnR 2 1 w wr v n ((rot xs b).take n) → RetO w (rot xs b) (.returned v) wr) := fun wr v h1 => by
    rw [List.take_of_length_le (by rw [rot_len, hxl.out]; exact Nat.le_refl _)] at h1
    have h2 : (rot xs b).length = n := by rw [rot_len, hxl.out]
    obtain ⟨A1, c1, rfl⟩ := h1.forms
    exact ⟨A1, c1, by rw [h2], by rw [h2]; exact h1⟩
  go_enter Try.func57, Try.ntmps57
  go_wp2
  go_loopw [5, 10] (fun v i wr => ∃ k : Nat, k ≤ n ∧ i = .int .i64 k ∧ OwnR 2 1 w wr v k ((rot xs b).take k)) (fun _ i _ => n - (intOf i).toNat)
  case atStart => exact ⟨0, Nat.zero_le _, rfl, by simpa using hE.out⟩
  case round =>
    obtain ⟨k, hk, rfl, hO⟩ := hrel
    have HO := Lib.hid hO
    clear hO
    by_cases hlt : k < n
    · have i1 : (k : Int) < n := by omega
      have HS : Hid ((rot xs b).take (k + 1) = (rot xs b).take k ++ [thAt xs ((k : Int) + b)]) := rot_succ b (by rw [hxl.out]; exact hlt)
      have wk : IntKind.i64.wrap ((k : Int) + b) = k + b := IntWalk.i64_in _ (by omega)
      go_wp2_with (first | (go_at_call 72; (with_reducible refine (throwAt_n _ _ _ xs _ _ (hI.ext HO.out.ext) hn).mono ?_); rintro e w' ⟨rfl, rfl⟩) | (at_builtin; refine appM elInt (by omega) rfl _ _ Try.underlying30 rfl rfl (HO.out.trans (by with_reducible (repeat (first | exact Ext.refl _ | apply Ext.drewN | apply Ext.drew | apply Ext.alloc | (refine Ext.set ?_ (by first | (simp; done) | (simp; omega) | omega) _) | (refine Ext.trans ?_ (by assumption)))))) (by omega) rfl (heap_alloc_new _ _) (ys := [thAt xs ((k : Int) + b)]) (by rfl) (by rfl) ?_; intro v' w3 hO3; have HO3 := Lib.hid hO3; clear hO3))
      go_roundw
      case rel => exact ⟨k + 1, by omega, by go_num, by rw [HS.out]; exact HO3.out⟩
      case measure => simp [intOf]; omega
    · obtain rfl : k = n := by omega
      go_wp2
      go_ret
      exact HT0.out _ _ HO.out
set_option maxHeartbeats 1000000 in
theorem l03Rotate_any (A : Option Addr) (n c : Nat) (xs : List Int) (b : Nat) (w : World) (hI : Ints w A n xs) (hn : 1 ≤ n ∧ n ≤ 1000) (hb : b ≤ 1000) :
    Calls Try.prog 49 #[.slice A n c, .int .i64 (b : Int)] w (RetO w (rot xs b)) := by
  have hxl := Lib.hid hI.len
  have hE := Lib.hid (ownR_empty (Ext.refl w) 2 1)
  have HT0 : Hid (∀ (wr : World) (v : Value), OwnR 2 1 w wr v n ((rot xs b).take n) → RetO w (rot xs b) (.returned v) wr) := fun wr v h1 => by
    rw [List.take_of_length_le (by rw [rot_len, hxl.out]; exact Nat.le_refl _)] at h1
    have h2 : (rot xs b).length = n := by rw [rot_len, hxl.out]
    obtain ⟨A1, c1, rfl⟩ := h1.forms
    exact ⟨A1, c1, by rw [h2], by rw [h2]; exact h1⟩
  go_enter Try.func49, Try.ntmps49
  go_wp2
  go_loopw [5, 6] (fun v i wr => ∃ k : Nat, k ≤ n ∧ i = .int .i64 k ∧ OwnR 2 1 w wr v k ((rot xs b).take k)) (fun _ i _ => n - (intOf i).toNat)
  case atStart => exact ⟨0, Nat.zero_le _, rfl, by simpa using hE.out⟩
  case round =>
    obtain ⟨k, hk, rfl, hO⟩ := hrel
    have HO := Lib.hid hO
    clear hO
    by_cases hlt : k < n
    · have i1 : (k : Int) < n := by omega
      have HS : Hid ((rot xs b).take (k + 1) = (rot xs b).take k ++ [thAt xs ((k : Int) + b)]) := rot_succ b (by rw [hxl.out]; exact hlt)
      have wk : IntKind.i64.wrap ((k : Int) + b) = k + b := IntWalk.i64_in _ (by omega)
      go_wp2_with (first | (go_at_call 67; (with_reducible refine (l02At_n _ _ _ xs _ _ (hI.ext HO.out.ext) hn).mono ?_); rintro e w' ⟨rfl, rfl⟩) | (at_builtin; refine appM elInt (by omega) rfl _ _ Try.underlying30 rfl rfl (HO.out.trans (by with_reducible (repeat (first | exact Ext.refl _ | apply Ext.drewN | apply Ext.drew | apply Ext.alloc | (refine Ext.set ?_ (by first | (simp; done) | (simp; omega) | omega) _) | (refine Ext.trans ?_ (by assumption)))))) (by omega) rfl (heap_alloc_new _ _) (ys := [thAt xs ((k : Int) + b)]) (by rfl) (by rfl) ?_; intro v' w3 hO3; have HO3 := Lib.hid hO3; clear hO3))
      go_roundw
      case rel => exact ⟨k + 1, by omega, by go_num, by rw [HS.out]; exact HO3.out⟩
      case measure => simp [intOf]; omega
    · obtain rfl : k = n := by omega
      go_wp2
      go_ret
      exact HT0.out _ _ HO.out
set_option maxHeartbeats 1000000 in
theorem repeated_any (A : Option Addr) (n c : Nat) (xs : List Int) (b : Nat) (w : World) (hI : Ints w A n xs) (hb : b * n ≤ 1000) (hb2 : b ≤ 1000) :
    Calls Try.prog 70 #[.slice A n c, .int .i64 (b : Int)] w (RetO w (rpt xs b)) := by
  have hxl := Lib.hid hI.len
  have hE := Lib.hid (ownR_empty (Ext.refl w) 2 1)
  have HT0 : Hid (∀ (wr : World) (v : Value), OwnR 2 1 w wr v (rpt xs b).length (rpt xs b) → RetO w (rpt xs b) (.returned v) wr) := fun wr v h1 => by
    obtain ⟨A1, c1, rfl⟩ := h1.forms
    exact ⟨A1, c1, rfl, h1⟩
  go_enter Try.func70, Try.ntmps70
  go_wp2
  go_loopw [5, 8] (fun v i wr => ∃ k : Nat, k ≤ b ∧ i = .int .i64 k ∧ OwnR 2 1 w wr v (rpt xs k).length (rpt xs k)) (fun _ i _ => b - (intOf i).toNat)
  case atStart => exact ⟨0, Nat.zero_le _, rfl, hE.out⟩
  case round =>
    obtain ⟨k, hk, rfl, hO⟩ := hrel
    have HO := Lib.hid hO
    clear hO
    by_cases hlt : k < b
    · have i1 : (k : Int) < b := by omega
      have hle : (rpt xs k).length + n ≤ 1000000 := by
        have h1 : (k + 1) * n ≤ b * n := Nat.mul_le_mul_right _ (by omega)
        rw [rpt_len, hxl.out]
        rw [Nat.succ_mul] at h1
        omega
      have hx0 := HO.out.ext.size
      go_wp2_with (at_builtin; refine appI rfl _ _ rfl rfl HO.out.own (by omega) rfl (hI.ext HO.out.ext) hle ?_; intro v' w3 ho' hg' hat')
      have HO3 : Hid (OwnR 2 1 w w3 v' (rpt xs (k + 1)).length (rpt xs (k + 1))) := by
        have e : (rpt xs (k + 1)).length = (rpt xs k).length + n := by show (rpt xs k ++ xs).length = _; rw [List.length_append, hxl.out]
        refine ⟨?_, HO.out.ext.grown hg' (fun x hx => (World.ownsRow.lt HO.out.own x hx).1)⟩
        rw [e]
        exact ho'
      clear ho' hg' hat' hle
      go_wp2
      go_roundw
      case rel => exact ⟨k + 1, by omega, by go_num, HO3.out⟩
      case measure => simp [intOf]; omega
    · obtain rfl : k = b := by omega
      go_wp2
      go_ret
      exact HT0.out _ _ HO.out
set_option maxHeartbeats 1000000 in
theorem l03Repeat_any (A : Option Addr) (n c : Nat) (xs : List Int) (b : Nat) (w : World) (hI : Ints w A n xs) (hb : b * n ≤ 1000) (hb2 : b ≤ 1000) :
    Calls Try.prog 65 #[.slice A n c, .int .i64 (b : Int)] w (RetO w (rpt xs b)) := by
  have hxl := Lib.hid hI.len
  have hE := Lib.hid (ownR_empty (Ext.refl w) 2 1)
  have HT0 : Hid (∀ (wr : World) (v : Value), OwnR 2 1 w wr v (rpt xs b).length (rpt xs b) → RetO w (rpt xs b) (.returned v) wr) := fun wr v h1 => by
    obtain ⟨A1, c1, rfl⟩ := h1.forms
    exact ⟨A1, c1, rfl, h1⟩
  go_enter Try.func65, Try.ntmps65
  go_wp2
  go_loopw [5, 6] (fun v i wr => ∃ k : Nat, k ≤ b ∧ i = .int .i64 k ∧ OwnR 2 1 w wr v (rpt xs k).length (rpt xs k)) (fun _ i _ => b - (intOf i).toNat)
  case atStart => exact ⟨0, Nat.zero_le _, rfl, hE.out⟩
  case round =>
    obtain ⟨k, hk, rfl, hO⟩ := hrel
    have HO := Lib.hid hO
    clear hO
    by_cases hlt : k < b
    · have i1 : (k : Int) < b := by omega
      have hle : (rpt xs k).length + n ≤ 1000000 := by
        have h1 : (k + 1) * n ≤ b * n := Nat.mul_le_mul_right _ (by omega)
        rw [rpt_len, hxl.out]
        rw [Nat.succ_mul] at h1
        omega
      have hx0 := HO.out.ext.size
      go_wp2_with (at_builtin; refine appI rfl _ _ rfl rfl HO.out.own (by omega) rfl (hI.ext HO.out.ext) hle ?_; intro v' w3 ho' hg' hat')
      have HO3 : Hid (OwnR 2 1 w w3 v' (rpt xs (k + 1)).length (rpt xs (k + 1))) := by
        have e : (rpt xs (k + 1)).length = (rpt xs k).length + n := by show (rpt xs k ++ xs).length = _; rw [List.length_append, hxl.out]
        refine ⟨?_, HO.out.ext.grown hg' (fun x hx => (World.ownsRow.lt HO.out.own x hx).1)⟩
        rw [e]
        exact ho'
      clear ho' hg' hat' hle
      go_wp2
      go_roundw
      case rel => exact ⟨k + 1, by omega, by go_num, HO3.out⟩
      case measure => simp [intOf]; omega
    · obtain rfl : k = b := by omega
      go_wp2
      go_ret
      exact HT0.out _ _ HO.out
end Go.Proofs.Ytbldhfmhipdniaa
