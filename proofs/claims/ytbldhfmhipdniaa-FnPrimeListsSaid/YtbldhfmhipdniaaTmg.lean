/- Dwell times, and whether a timing fits: contracts of l15Most, MaxDwell, l15Fits, fits, l15Code, timingCode. No condition but the stated bounds. -/
import Derived.Test.YtbldhfmhipdniaaMea
import Derived.Test.YtbldhfmhipdniaaTim
namespace Go.Proofs.Ytbldhfmhipdniaa
set_option linter.unusedVariables false
set_option linter.unusedSimpArgs false
open Go.RowKit

def mstF (bt a x : Int) : Int := if 0 < x then cml a (x * bt - 1) else a
/-- The longest dwell time that the first k throws allow. -/
def mst (bt : Int) (xs : List Int) (k : Nat) : Int := fold (mstF bt) (2 * bt) xs k
theorem mst_succ (bt : Int) (xs : List Int) (k : Nat) : mst bt xs (k + 1) = mstF bt (mst bt xs k) (xs[k]?.getD 0) := rfl
theorem prod_bd {x bt : Int} (hx : 0 ≤ x ∧ x ≤ 15) (hb : 2 ≤ bt ∧ bt ≤ 30) : 0 ≤ x * bt ∧ x * bt ≤ 450 ∧ (0 < x → 2 ≤ x * bt) := by
  have h1 := mul_bd (a := x) (b := bt) (A := 15) (B := 30) (by omega) (by omega)
  have h2 := Int.mul_nonneg hx.1 (show 0 ≤ bt by omega)
  refine ⟨h2, by omega, fun h => ?_⟩
  have h3 := Int.mul_le_mul (show 1 ≤ x by omega) hb.1 (by omega) (by omega)
  omega
theorem mst_bd {bt : Int} {xs : List Int} {k : Nat} (hb : 2 ≤ bt ∧ bt ≤ 30) (h : ∀ i, i < k → 0 ≤ xs[i]?.getD 0 ∧ xs[i]?.getD 0 ≤ 15) : 1 ≤ mst bt xs k ∧ mst bt xs k ≤ 60 := by
  induction k with
  | zero => show 1 ≤ 2 * bt ∧ 2 * bt ≤ 60; omega
  | succ k ih =>
    have h1 := ih (fun i hi => h i (by omega))
    have h2 := h k (by omega)
    have h3 := prod_bd h2 hb
    rw [mst_succ]
    unfold mstF
    split
    · unfold cml
      have := h3.2.2 ‹_›
      split <;> omega
    · exact h1
/-- The timing fits: each throw flies for at least 1 tick. -/
def fits (xs : List Int) (b d : Int) : Bool := decide (d ≤ mst b xs xs.length)
def AllFit (xs : List Int) (b d : Int) (k : Nat) : Prop := d ≤ mst b xs k
theorem mst_mono (bt : Int) (xs : List Int) (k j : Nat) : mst bt xs (k + j) ≤ mst bt xs k := by
  induction j with
  | zero => exact Int.le_refl _
  | succ j ih =>
    rw [show k + (j + 1) = (k + j) + 1 from rfl, mst_succ]
    unfold mstF cml
    split
    · split <;> omega
    · exact ih
theorem fits_no {xs : List Int} {b d : Int} {k : Nat} (hk : k < xs.length) (hx : 0 < xs[k]?.getD 0) (h : xs[k]?.getD 0 * b - d < 1) : fits xs b d = false := by
  unfold fits
  rw [decide_eq_false_iff_not]
  have h1 := mst_mono b xs (k + 1) (xs.length - (k + 1))
  rw [show k + 1 + (xs.length - (k + 1)) = xs.length by omega, mst_succ] at h1
  unfold mstF at h1
  rw [if_pos hx] at h1
  unfold cml at h1
  split at h1 <;> omega
theorem AllFit.succ {xs : List Int} {b d : Int} {k : Nat} (h : AllFit xs b d k) (hx : 0 < xs[k]?.getD 0 → ¬ xs[k]?.getD 0 * b - d < 1) : AllFit xs b d (k + 1) := by
  unfold AllFit at h ⊢
  rw [mst_succ]
  unfold mstF
  split
  · have := hx ‹_›
    unfold cml
    split <;> omega
  · exact h
end Go.Proofs.Ytbldhfmhipdniaa
