/- How many props are held at a tick: contracts of l15Held, inHands. No condition but the stated bounds. -/
import Derived.Test.YtbldhfmhipdniaaTcd
namespace Go.Proofs.Ytbldhfmhipdniaa
set_option linter.unusedVariables false
set_option linter.unusedSimpArgs false
open Go.RowKit

/-- The prop that is thrown at the beat z is held at the tick. -/
def hInd (xs : List Int) (b d t z : Int) : Int := if 0 < thAt xs z ∧ z * b - d ≤ t ∧ t < z * b then 1 else 0
/-- How many are held out of those that are thrown at the first j beats from q on. -/
def hCnt (xs : List Int) (b d t q : Int) : Nat → Int
  | 0 => 0
  | j + 1 => hCnt xs b d t q j + hInd xs b d t (q + j)
/-- How many props are held at the tick. -/
def hin (xs : List Int) (b d t : Int) : Int := hCnt xs b d t (t / b) 4
theorem hInd_bd (xs : List Int) (b d t z : Int) : 0 ≤ hInd xs b d t z ∧ hInd xs b d t z ≤ 1 := by unfold hInd; split <;> omega
theorem hCnt_bd (xs : List Int) (b d t q : Int) (j : Nat) : 0 ≤ hCnt xs b d t q j ∧ hCnt xs b d t q j ≤ j := by
  induction j with
  | zero => simp [hCnt]
  | succ j ih =>
    have h := hInd_bd xs b d t (q + j)
    simp only [hCnt]
    omega
/-- The beats around a tick. -/
theorem beat_bd {b t : Int} (hb : 2 ≤ b ∧ b ≤ 30) (ht : 0 ≤ t ∧ t ≤ 3000) : (0 ≤ t / b ∧ t / b ≤ 1500) ∧ (t / b * b ≤ t ∧ t < t / b * b + b) := by
  have h1 := Int.ediv_mul_le t (show b ≠ 0 by omega)
  have h2 := Int.lt_ediv_add_one_mul_self t (show 0 < b by omega)
  have h3 : 0 ≤ t / b := Int.ediv_nonneg (by omega) (by omega)
  have h4 : (t / b + 1) * b = t / b * b + b := by rw [Int.add_mul, Int.one_mul]
  have h5 : t / b * 2 ≤ t / b * b := Int.mul_le_mul_of_nonneg_left hb.1 h3
  rw [h4] at h2
  omega
theorem zb_eq (q b : Int) (j : Nat) (h : j ≤ 4) : (q + j) * b = q * b + (if j = 0 then 0 else if j = 1 then b else if j = 2 then 2 * b else if j = 3 then 3 * b else 4 * b) := by
  rcases (by omega : j = 0 ∨ j = 1 ∨ j = 2 ∨ j = 3 ∨ j = 4) with rfl | rfl | rfl | rfl | rfl <;> simp [Int.add_mul]
theorem hInd_zero {xs : List Int} {b d t z : Int} (h : ¬ (z * b - d ≤ t ∧ t < z * b)) : hInd xs b d t z = 0 := by
  unfold hInd
  rw [if_neg (fun hh => h hh.2)]
theorem hCnt_one (xs : List Int) {b d t : Int} (hb : 2 ≤ b ∧ b ≤ 30) (ht : 0 ≤ t ∧ t ≤ 3000) : hCnt xs b d t (t / b) 1 = 0 := by
  have h := (beat_bd hb ht).2
  simp only [hCnt]
  rw [hInd_zero (by simp; omega)]
  rfl
theorem hin_more {xs : List Int} {b d t z : Int} {j : Nat} (hb : 2 ≤ b ∧ b ≤ 30) (hd : d ≤ 2 * b) (ht : 0 ≤ t ∧ t ≤ 3000) (hj : j ≤ 2) (hz : t / b + ((j + 1 : Nat) : Int) = z) (h : z * b - d ≤ t) : j ≤ 1 ∧ t < z * b := by
  have h1 := (beat_bd hb ht).2
  rw [← hz, zb_eq _ _ _ (by omega)] at h ⊢
  rcases (by omega : j = 0 ∨ j = 1 ∨ j = 2) with rfl | rfl | rfl
  · simp at h ⊢; omega
  · simp at h ⊢; omega
  · simp at h; omega
theorem hin_stop {xs : List Int} {b d t z : Int} {j : Nat} (hb : 2 ≤ b ∧ b ≤ 30) (hj : j ≤ 2) (hz : t / b + ((j + 1 : Nat) : Int) = z) (h : ¬ z * b - d ≤ t) : hCnt xs b d t (t / b) (j + 1) = hin xs b d t := by
  have key : ∀ i : Nat, j + 1 ≤ i → i ≤ 4 → hInd xs b d t (t / b + i) = 0 := fun i h1 h2 => by
    apply hInd_zero
    rw [← hz, zb_eq _ _ _ (by omega)] at h
    rw [zb_eq _ _ _ (by omega)]
    rintro ⟨h3, _⟩
    rcases (by omega : j = 0 ∨ j = 1 ∨ j = 2) with rfl | rfl | rfl <;> rcases (by omega : i = 1 ∨ i = 2 ∨ i = 3 ∨ i = 4) with rfl | rfl | rfl | rfl <;> simp at h h3 <;> omega
  unfold hin
  rcases (by omega : j = 0 ∨ j = 1 ∨ j = 2) with rfl | rfl | rfl
  · have k1 := key 1 (by omega) (by omega)
    have k2 := key 2 (by omega) (by omega)
    have k3 := key 3 (by omega) (by omega)
    simp only [hCnt]
    rw [k1, k2, k3]
    simp
  · have k2 := key 2 (by omega) (by omega)
    have k3 := key 3 (by omega) (by omega)
    simp only [hCnt]
    rw [k2, k3]
    simp
  · have k3 := key 3 (by omega) (by omega)
    simp only [hCnt]
    rw [k3]
    simp
end Go.Proofs.Ytbldhfmhipdniaa
