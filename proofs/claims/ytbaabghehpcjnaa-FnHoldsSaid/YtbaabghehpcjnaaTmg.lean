/- Dwell times, and whether a timing fits: contracts of l15Most, MaxDwell, l15Fits, fits, l15Code, timingCode. No condition but the stated bounds. -/
import Derived.Test.YtbaabghehpcjnaaMea
import Derived.Test.YtbaabghehpcjnaaTim
namespace Go.Proofs.Ytbaabghehpcjnaa
set_option linter.unusedVariables false
set_option linter.unusedSimpArgs false
open Go.RowKit

def mstF (bt a x : Int) : Int := if 0 < x then cml a (x * bt - 1) else a
/-- The longest dwell time that the first k throws allow. -/
def mst (bt : Int) (xs : List Int) (k : Nat) : Int := fold (mstF bt) (2 * bt) xs k
theorem mst_succ (bt : Int) (xs : List Int) (k : Nat) : mst bt xs (k + 1) = mstF bt (mst bt xs k) (xs[k]?.getD 0) := rfl
theorem prod_bd {x bt : Int} (hx : 0 ≤ x ∧ x ≤ 15) (hb : 2 ≤ bt ∧ bt ≤ 30) : 0 ≤ x * bt ∧ x * bt ≤ 450 ∧ (0 < x → 2 ≤ x * bt) := by
  have h1 := mul_bd (a := x) (b := bt) (A := 15) (B := 30) (by omega) (by omega)
  have h2 := Int.mul_nonneg hx.1 (show 0 ≤ bt by omega)
  refine ⟨h2, by omega, fun h => ?_⟩
  have h3 := Int.mul_le_mul (show 1 ≤ x by omega) hb.1 (by omega) (by omega)
  omega
theorem mst_bd {bt : Int} {xs : List Int} {k : Nat} (hb : 2 ≤ bt ∧ bt ≤ 30) (h : ∀ i, i < k → 0 ≤ xs[i]?.getD 0 ∧ xs[i]?.getD 0 ≤ 15) : 1 ≤ mst bt xs k ∧ mst bt xs k ≤ 60 := by
  induction k with
  | zero => show 1 ≤ 2 * bt ∧ 2 * bt ≤ 60; omega
  | succ k ih =>
    have h1 := ih (fun i hi => h i (by omega))
    have h2 := h k (by omega)
    have h3 := prod_bd h2 hb
    rw [mst_succ]
    unfold mstF
    split
    · unfold cml
      have := h3.2.2 ‹_›
      split <;> omega
    · exact h1
/-- The timing fits: each throw flies for at least 1 tick. -/
def fits (xs : List Int) (b d : Int) : Bool := decide (d ≤ mst b xs xs.length)
def AllFit (xs : List Int) (b d : Int) (k : Nat) : Prop := d ≤ mst b xs k
theorem mst_mono (bt : Int) (xs : List Int) (k j : Nat) : mst bt xs (k + j) ≤ mst bt xs k := by
  induction j with
  | zero => exact Int.le_refl _
  | succ j ih =>
    rw [show k + (j + 1) = (k + j) + 1 from rfl, mst_succ]
    unfold mstF cml
    split
    · split <;> omega
    · exact ih
theorem fits_no {xs : List Int} {b d : Int} {k : Nat} (hk : k < xs.length) (hx : 0 < xs[k]?.getD 0) (h : xs[k]?.getD 0 * b - d < 1) : fits xs b d = false := by
  unfold fits
  rw [decide_eq_false_iff_not]
  have h1 := mst_mono b xs (k + 1) (xs.length - (k + 1))
  rw [show k + 1 + (xs.length - (k + 1)) = xs.length by omega, mst_succ] at h1
  unfold mstF at h1
  rw [if_pos hx] at h1
  unfold cml at h1
  split at h1 <;> omega
theorem AllFit.succ {xs : List Int} {b d : Int} {k : Nat} (h : AllFit xs b d k) (hx : 0 < xs[k]?.getD 0 → ¬ xs[k]?.getD 0 * b - d < 1) : AllFit xs b d (k + 1) := by
  unfold AllFit at h ⊢
  rw [mst_succ]
  unfold mstF
  split
  · have := hx ‹_›
    unfold cml
    split <;> omega
  · exact h
set_option maxHeartbeats 1000000 in
theorem l15Most_any (A : Option Addr) (n c : Nat) (xs : List Int) (bt : Int) (w : World) (hI : Ints w A n xs) (hv : vpat xs = true) (hbt : 2 ≤ bt ∧ bt ≤ 30) :
    Calls Try.prog 47 #[.slice A n c, .int .i64 bt] w fun e w' => e = .returned (.int .i64 (mst bt xs n)) ∧ w = w' := by
  obtain ⟨hb1, hb2, hb3⟩ := thr_iff.1 (vpat_thr hv)
  rw [hI.len] at hb1 hb2 hb3
  have hb1 := Lib.hid hb1
  go_enter Try.func47, Try.ntmps47
  go_wp2_with (first | (go_at_call 65; (with_reducible refine (l00Min_any _ _ _).mono ?_); rintro e w' ⟨rfl, rfl⟩))
  go_loop [5, 6] (fun s i => ∃ k : Nat, 0 ≤ k ∧ k ≤ n ∧ i = .int .i64 k ∧ s = .int .i64 (mst bt xs k)) (fun _ i => n - (intOf i).toNat)
  case atStart => exact ⟨0, by omega, by omega, rfl, rfl⟩
  case round =>
    obtain ⟨k, hk0, hk, rfl, rfl⟩ := hrel
    have hbd := mst_bd (xs := xs) (k := k) hbt (fun i hi => hb1.out i (by omega))
    by_cases hlt : k < n
    · obtain ⟨b, off, hA, hb, hcell⟩ := hI.at_ (by omega)
      first | subst hA | (injection hA with hA; injection hA with hA1 hA2; subst hA1; subst hA2)
      have hc := hcell k hlt
      have hbk := hb1.out k hlt
      have ik : (k : Int) < n := by omega
      clear hcell
      have hp := prod_bd hbk hbt
      obtain ⟨hp1, hp2, _⟩ := hp
      by_cases hx : 0 < xs[k]?.getD 0
      · have HS : Hid (mst bt xs (k + 1) = cml (mst bt xs k) (xs[k]?.getD 0 * bt - 1)) := by show _ = _; rw [mst_succ]; unfold mstF; rw [if_pos hx]
        go_wp2_with (first | (go_at_call 65; (with_reducible refine (l00Min_any _ _ _).mono ?_); rintro e w' ⟨rfl, rfl⟩))
        go_round
        case rel => exact ⟨k + 1, by omega, by omega, by go_num, by rw [HS.out]⟩
        case measure => simp [intOf]; omega
      · have HS : Hid (mst bt xs (k + 1) = mst bt xs k) := by show _ = _; rw [mst_succ]; unfold mstF; rw [if_neg hx]
        go_wp2_with (first | (go_at_call 65; (with_reducible refine (l00Min_any _ _ _).mono ?_); rintro e w' ⟨rfl, rfl⟩))
        go_round
        case rel => exact ⟨k + 1, by omega, by omega, by go_num, by rw [HS.out]⟩
        case measure => simp [intOf]; omega
    · obtain rfl : k = n := by omega
      go_wp2_with (first | (go_at_call 65; (with_reducible refine (l00Min_any _ _ _).mono ?_); rintro e w' ⟨rfl, rfl⟩))
      go_ret
      exact ⟨rfl, rfl⟩
set_option maxHeartbeats 1000000 in
theorem implMaxDwell_yes (A : Option Addr) (n c : Nat) (xs : List Int) (bt : Int) (w : World) (hI : Ints w A n xs) (hv : vpat xs = true) (hb : btw bt 2 30 = true) :
    Calls Try.prog 11 #[.slice A n c, .int .i64 bt] w fun e w' => e = .returned (.tuple #[.int .i64 (mst bt xs n), .int .i64 0]) ∧ Ext w w' := by
  obtain ⟨hb1, hb2, hb3⟩ := thr_iff.1 (vpat_thr hv)
  rw [hI.len] at hb1 hb2 hb3
  have hb1 := Lib.hid hb1
  have hbt := btw_iff.1 hb
  go_enter Try.func11, Try.ntmps11
  go_wp2_with (first | (go_at_call 30; (with_reducible refine (ValidPattern_is _ _ _ xs _ hv _ hI).mono ?_); rintro e w1 ⟨rfl, hx⟩; have hz := hx.size; (try simp at hz); (try (have hq0 : w.heap.size < w1.heap.size := by omega)); (try (have hc0 : ∀ o, w1.cell? ⟨w.heap.size, o, none⟩ = _ := fun o => hx.cells.1 _ o (by first | (simp; done) | (simp; omega) | omega))); (try (have hf0 : ∀ o, w1.frozen? ⟨w.heap.size, o, none⟩ = _ := fun o => hx.cells.2 _ o (by first | (simp; done) | (simp; omega) | omega))); (try (have hq1 : w.heap.size + 1 < w1.heap.size := by omega)); (try (have hc1 : ∀ o, w1.cell? ⟨w.heap.size + 1, o, none⟩ = _ := fun o => hx.cells.1 _ o (by first | (simp; done) | (simp; omega) | omega))); (try (have hf1 : ∀ o, w1.frozen? ⟨w.heap.size + 1, o, none⟩ = _ := fun o => hx.cells.2 _ o (by first | (simp; done) | (simp; omega) | omega))); (try (have hq2 : w.heap.size + 2 < w1.heap.size := by omega)); (try (have hc2 : ∀ o, w1.cell? ⟨w.heap.size + 2, o, none⟩ = _ := fun o => hx.cells.1 _ o (by first | (simp; done) | (simp; omega) | omega))); (try (have hf2 : ∀ o, w1.frozen? ⟨w.heap.size + 2, o, none⟩ = _ := fun o => hx.cells.2 _ o (by first | (simp; done) | (simp; omega) | omega)))) | (go_at_call 31; (with_reducible refine (between_is _ _ _ _ hb _).mono ?_); rintro e w' ⟨rfl, rfl⟩))
  go_loop [6, 19] (fun s i => ∃ k : Nat, k ≤ n ∧ i = .int .i64 k ∧ s = .int .i64 (mst bt xs k)) (fun _ i => n - (intOf i).toNat)
  case atStart => exact ⟨0, by omega, rfl, rfl⟩
  case round =>
    obtain ⟨k, hk, rfl, rfl⟩ := hrel
    have hbd := mst_bd (xs := xs) (k := k) hbt (fun i hi => hb1.out i (by omega))
    by_cases hlt : k < n
    · obtain ⟨b, off, hA, hbb, hcell⟩ := (hI.ext (by assumption)).at_ (by omega)
      subst hA
      have hc := hcell k hlt
      have hbk := hb1.out k hlt
      have hp := prod_bd hbk hbt
      obtain ⟨hp1, hp2, _⟩ := hp
      clear hcell
      by_cases hx : 0 < xs[k]?.getD 0
      · by_cases hy : xs[k]?.getD 0 * bt - 1 < mst bt xs k
        · have HS : Hid (mst bt xs (k + 1) = xs[k]?.getD 0 * bt - 1) := by show _ = _; rw [mst_succ]; unfold mstF; rw [if_pos hx, cml_pos hy]
          go_wp2
          go_round
          case rel => exact ⟨k + 1, by omega, by go_num, by rw [HS.out]⟩
          case measure => simp [intOf]; omega
        · have HS : Hid (mst bt xs (k + 1) = mst bt xs k) := by show _ = _; rw [mst_succ]; unfold mstF; rw [if_pos hx, cml_neg hy]
          go_wp2
          go_round
          case rel => exact ⟨k + 1, by omega, by go_num, by rw [HS.out]⟩
          case measure => simp [intOf]; omega
      · have HS : Hid (mst bt xs (k + 1) = mst bt xs k) := by show _ = _; rw [mst_succ]; unfold mstF; rw [if_neg hx]
        go_wp2
        go_round
        case rel => exact ⟨k + 1, by omega, by go_num, by rw [HS.out]⟩
        case measure => simp [intOf]; omega
    · obtain rfl : k = n := by omega
      go_wp2
      go_ret2
      exact ⟨rfl, (by with_reducible (repeat (first | exact Ext.refl _ | apply Ext.drewN | apply Ext.drew | apply Ext.alloc | (refine Ext.set ?_ (by first | (simp; done) | (simp; omega) | omega) _) | (refine Ext.trans ?_ (by assumption)))))⟩
theorem implMaxDwell_no (A : Option Addr) (n c : Nat) (xs : List Int) (bt : Int) (w : World) (hI : Ints w A n xs) (hv : vpat xs = false) :
    Calls Try.prog 11 #[.slice A n c, .int .i64 bt] w fun e w' => e = .returned (.tuple #[.int .i64 0, .int .i64 1]) ∧ Ext w w' := by
  go_enter Try.func11, Try.ntmps11
  go_wp2_with (first | (go_at_call 30; (with_reducible refine (ValidPattern_is _ _ _ xs _ hv _ hI).mono ?_); rintro e w1 ⟨rfl, hx⟩; have hz := hx.size; (try simp at hz); (try (have hq0 : w.heap.size < w1.heap.size := by omega)); (try (have hc0 : ∀ o, w1.cell? ⟨w.heap.size, o, none⟩ = _ := fun o => hx.cells.1 _ o (by first | (simp; done) | (simp; omega) | omega))); (try (have hf0 : ∀ o, w1.frozen? ⟨w.heap.size, o, none⟩ = _ := fun o => hx.cells.2 _ o (by first | (simp; done) | (simp; omega) | omega))); (try (have hq1 : w.heap.size + 1 < w1.heap.size := by omega)); (try (have hc1 : ∀ o, w1.cell? ⟨w.heap.size + 1, o, none⟩ = _ := fun o => hx.cells.1 _ o (by first | (simp; done) | (simp; omega) | omega))); (try (have hf1 : ∀ o, w1.frozen? ⟨w.heap.size + 1, o, none⟩ = _ := fun o => hx.cells.2 _ o (by first | (simp; done) | (simp; omega) | omega))); (try (have hq2 : w.heap.size + 2 < w1.heap.size := by omega)); (try (have hc2 : ∀ o, w1.cell? ⟨w.heap.size + 2, o, none⟩ = _ := fun o => hx.cells.1 _ o (by first | (simp; done) | (simp; omega) | omega))); (try (have hf2 : ∀ o, w1.frozen? ⟨w.heap.size + 2, o, none⟩ = _ := fun o => hx.cells.2 _ o (by first | (simp; done) | (simp; omega) | omega)))))
  go_ret2
  exact ⟨rfl, (by with_reducible (repeat (first | exact Ext.refl _ | apply Ext.drewN | apply Ext.drew | apply Ext.alloc | (refine Ext.set ?_ (by first | (simp; done) | (simp; omega) | omega) _) | (refine Ext.trans ?_ (by assumption)))))⟩
theorem implMaxDwell_range (A : Option Addr) (n c : Nat) (xs : List Int) (bt : Int) (w : World) (hI : Ints w A n xs) (hv : vpat xs = true) (hb : btw bt 2 30 = false) :
    Calls Try.prog 11 #[.slice A n c, .int .i64 bt] w fun e w' => e = .returned (.tuple #[.int .i64 0, .int .i64 2]) ∧ Ext w w' := by
  go_enter Try.func11, Try.ntmps11
  go_wp2_with (first | (go_at_call 30; (with_reducible refine (ValidPattern_is _ _ _ xs _ hv _ hI).mono ?_); rintro e w1 ⟨rfl, hx⟩; have hz := hx.size; (try simp at hz); (try (have hq0 : w.heap.size < w1.heap.size := by omega)); (try (have hc0 : ∀ o, w1.cell? ⟨w.heap.size, o, none⟩ = _ := fun o => hx.cells.1 _ o (by first | (simp; done) | (simp; omega) | omega))); (try (have hf0 : ∀ o, w1.frozen? ⟨w.heap.size, o, none⟩ = _ := fun o => hx.cells.2 _ o (by first | (simp; done) | (simp; omega) | omega))); (try (have hq1 : w.heap.size + 1 < w1.heap.size := by omega)); (try (have hc1 : ∀ o, w1.cell? ⟨w.heap.size + 1, o, none⟩ = _ := fun o => hx.cells.1 _ o (by first | (simp; done) | (simp; omega) | omega))); (try (have hf1 : ∀ o, w1.frozen? ⟨w.heap.size + 1, o, none⟩ = _ := fun o => hx.cells.2 _ o (by first | (simp; done) | (simp; omega) | omega))); (try (have hq2 : w.heap.size + 2 < w1.heap.size := by omega)); (try (have hc2 : ∀ o, w1.cell? ⟨w.heap.size + 2, o, none⟩ = _ := fun o => hx.cells.1 _ o (by first | (simp; done) | (simp; omega) | omega))); (try (have hf2 : ∀ o, w1.frozen? ⟨w.heap.size + 2, o, none⟩ = _ := fun o => hx.cells.2 _ o (by first | (simp; done) | (simp; omega) | omega)))) | (go_at_call 31; (with_reducible refine (between_is _ _ _ _ hb _).mono ?_); rintro e w' ⟨rfl, rfl⟩))
  go_ret2
  exact ⟨rfl, (by with_reducible (repeat (first | exact Ext.refl _ | apply Ext.drewN | apply Ext.drew | apply Ext.alloc | (refine Ext.set ?_ (by first | (simp; done) | (simp; omega) | omega) _) | (refine Ext.trans ?_ (by assumption)))))⟩
theorem l15Fits_any (A : Option Addr) (n c : Nat) (xs : List Int) (b d : Int) (w : World) (hI : Ints w A n xs) (hv : vpat xs = true) (hb : vtim b d = true) :
    Calls Try.prog 67 #[.slice A n c, .agg #[.int .i64 b, .int .i64 d]] w fun e w' => e = .returned (.bool (fits xs b d)) ∧ Ext w w' := by
  have hbt : 2 ≤ b ∧ b ≤ 30 := by unfold vtim at hb; rw [Bool.and_eq_true] at hb; exact btw_iff.1 hb.1
  have HR : Hid (decide (d ≤ mst b xs n) = fits xs b d) := by show _ = _; unfold fits; rw [hI.len]
  have hI1 := hI.ext ((Ext.refl w).alloc (.cells #[.int .i64 b, .int .i64 d] 26))
  go_enter Try.func67, Try.ntmps67
  go_wp2
  go_quiet ((go_at_call 47; first | with_reducible exact quiet_l (l15Most_any _ _ _ xs _ _ (Ints.drewN hI1 _) hv hbt) | with_reducible exact quiet_la (l15Most_any _ _ _ xs _ _ (Ints.drewN hI1 _) hv hbt)))
  go_wp2
  go_ret
  exact ⟨ret_bool HR.out, (by with_reducible (repeat (first | exact Ext.refl _ | apply Ext.drewN | apply Ext.drew | apply Ext.alloc | (refine Ext.set ?_ (by first | (simp; done) | (simp; omega) | omega) _) | (refine Ext.trans ?_ (by assumption)))))⟩
set_option maxHeartbeats 1000000 in
theorem fits_any (A : Option Addr) (n c : Nat) (xs : List Int) (b d : Int) (w : World) (hI : Ints w A n xs) (hv : vpat xs = true) (hb : vtim b d = true) :
    Calls Try.prog 33 #[.agg #[.int .i64 b, .int .i64 d], .slice A n c] w fun e w' => e = .returned (.bool (fits xs b d)) ∧ Ext w w' := by
  obtain ⟨hb1, hb2, hb3⟩ := thr_iff.1 (vpat_thr hv)
  rw [hI.len] at hb1 hb2 hb3
  have hb1 := Lib.hid hb1
  unfold vtim at hb
  rw [Bool.and_eq_true] at hb
  have hbt := btw_iff.1 hb.1
  have hdt := btw_iff.1 hb.2
  clear hb
  have hI1 := hI.ext ((Ext.refl w).alloc (.cells #[.int .i64 b, .int .i64 d] 26))
  have HL := Lib.hid hI.len
  go_enter Try.func33, Try.ntmps33
  go_wp2
  go_loop [9] (fun i => ∃ k : Nat, k ≤ n ∧ i = .int .i64 k ∧ Hid (AllFit xs b d k)) (fun i => n - (intOf i).toNat)
  case atStart => exact ⟨0, by omega, rfl, by show d ≤ 2 * b; omega⟩
  case round =>
    obtain ⟨k, hk, rfl, hall⟩ := hrel
    by_cases hlt : k < n
    · obtain ⟨b0, off, hA, hbb, hcell⟩ := hI1.at_ (by omega)
      subst hA
      have hc := hcell k hlt
      have hbk := hb1.out k hlt
      obtain ⟨hp1, hp2, _⟩ := prod_bd hbk hbt
      clear hcell
      by_cases hx : 0 < xs[k]?.getD 0
      · have hx' : decide (0 < xs[k]?.getD 0) = true := by simpa using hx
        by_cases hy : xs[k]?.getD 0 * b - d < 1
        · have HF : Hid (fits xs b d = false) := fits_no (by rw [HL.out]; exact hlt) hx hy
          go_wp2
          go_ret
          exact ⟨ret_bool HF.out.symm, (by with_reducible (repeat (first | exact Ext.refl _ | apply Ext.drewN | apply Ext.drew | apply Ext.alloc | (refine Ext.set ?_ (by first | (simp; done) | (simp; omega) | omega) _) | (refine Ext.trans ?_ (by assumption)))))⟩
        · have HS : Hid (AllFit xs b d (k + 1)) := hall.out.succ (fun _ => hy)
          go_wp2
          go_round
          case rel => exact ⟨k + 1, by omega, by go_num, HS⟩
          case measure => simp [intOf]; omega
      · have hx' : decide (0 < xs[k]?.getD 0) = false := by simpa using hx
        have HS : Hid (AllFit xs b d (k + 1)) := hall.out.succ (fun h => absurd h hx)
        go_wp2
        go_round
        case rel => exact ⟨k + 1, by omega, by go_num, HS⟩
        case measure => simp [intOf]; omega
    · obtain rfl : k = n := by omega
      have HF : Hid (fits xs b d = true) := by
        show _ = _
        unfold fits
        rw [HL.out]
        exact decide_eq_true hall.out
      go_wp2
      go_ret
      exact ⟨ret_bool HF.out.symm, (by with_reducible (repeat (first | exact Ext.refl _ | apply Ext.drewN | apply Ext.drew | apply Ext.alloc | (refine Ext.set ?_ (by first | (simp; done) | (simp; omega) | omega) _) | (refine Ext.trans ?_ (by assumption)))))⟩
end Go.Proofs.Ytbaabghehpcjnaa
