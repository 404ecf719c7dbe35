/- Sums over a list of throws, and the contracts of the measures' loops. No condition but the stated bounds. -/
import Derived.Test.YtohmnilkmljioaaGreatCla
import Derived.Test.YtohmnilkmljioaaGreatMM
import Derived.WalkLawsBesides
namespace Go.Proofs.YtohmnilkmljioaaGreat
set_option linter.unusedVariables false
set_option linter.unusedSimpArgs false
open Go.RowKit

/-- The sum of f over the first k numbers. -/
def acc (f : Int → Int) (xs : List Int) : Nat → Int
  | 0 => 0
  | k + 1 => acc f xs k + f (xs[k]?.getD 0)
theorem acc_bd {f : Int → Int} {xs : List Int} (M : Int) {k : Nat} (hM : 0 ≤ M) (h : ∀ i, i < k → 0 ≤ f (xs[i]?.getD 0) ∧ f (xs[i]?.getD 0) ≤ M) : 0 ≤ acc f xs k ∧ acc f xs k ≤ M * k := by
  induction k with
  | zero => simp [acc]
  | succ k ih =>
    have h1 := ih (fun i hi => h i (by omega))
    have h2 := h k (by omega)
    have e : M * ((k + 1 : Nat) : Int) = M * (k : Int) + M := by rw [Int.natCast_add, Int.mul_add]; simp
    simp only [acc]
    rw [e]
    omega
/-- A fold over the first k numbers. -/
def fold (g : Int → Int → Int) (s : Int) (xs : List Int) : Nat → Int
  | 0 => s
  | k + 1 => g (fold g s xs k) (xs[k]?.getD 0)
def hig (xs : List Int) (k : Nat) : Int := fold cmf 0 xs k
def lowg (xs : List Int) (k : Nat) : Int := fold cml ((xs[(0 : Nat)]?).getD (0 : Int)) xs k
theorem hig_bd {xs : List Int} {k : Nat} (h : ∀ i, i < k → 0 ≤ xs[i]?.getD 0 ∧ xs[i]?.getD 0 ≤ 15) : 0 ≤ hig xs k ∧ hig xs k ≤ 15 := by
  unfold hig
  induction k with
  | zero => simp [fold]
  | succ k ih =>
    have h1 := ih (fun i hi => h i (by omega))
    have h2 := h k (by omega)
    exact cmf_bd h1 h2
theorem lowg_bd {xs : List Int} {k : Nat} (h0 : 0 ≤ (xs[(0 : Nat)]?).getD (0 : Int) ∧ (xs[(0 : Nat)]?).getD (0 : Int) ≤ 15) (h : ∀ i, i < k → 0 ≤ xs[i]?.getD 0 ∧ xs[i]?.getD 0 ≤ 15) : 0 ≤ lowg xs k ∧ lowg xs k ≤ 15 := by
  unfold lowg
  induction k with
  | zero => exact h0
  | succ k ih =>
    have h1 := ih (fun i hi => h i (by omega))
    have h2 := h k (by omega)
    exact cml_bd h1 h2
def fEmpty (x : Int) : Int := if x == 0 then 1 else 0
def fThrown (x : Int) : Int := if 0 < x then 1 else 0
def fWork (x : Int) : Int := if 2 < x then (x - 1) * (x - 1) else 0
def fSum (x : Int) : Int := x
def fSwing (m x : Int) : Int := (x - m) * (x - m)
theorem acc_empty_bd (xs : List Int) (k : Nat) : 0 ≤ acc fEmpty xs k ∧ acc fEmpty xs k ≤ k := by
  have := acc_bd (f := fEmpty) (xs := xs) 1 (k := k) (by omega) (fun i _ => by unfold fEmpty; split <;> omega)
  omega
theorem acc_thrown_bd (xs : List Int) (k : Nat) : 0 ≤ acc fThrown xs k ∧ acc fThrown xs k ≤ k := by
  have := acc_bd (f := fThrown) (xs := xs) 1 (k := k) (by omega) (fun i _ => by unfold fThrown; split <;> omega)
  omega
theorem acc_sum_bd {xs : List Int} {k : Nat} (h : ∀ i, i < k → 0 ≤ xs[i]?.getD 0 ∧ xs[i]?.getD 0 ≤ 15) : 0 ≤ acc fSum xs k ∧ acc fSum xs k ≤ 15 * k := acc_bd 15 (by omega) h
theorem acc_work_bd {xs : List Int} {k : Nat} (h : ∀ i, i < k → 0 ≤ xs[i]?.getD 0 ∧ xs[i]?.getD 0 ≤ 15) : 0 ≤ acc fWork xs k ∧ acc fWork xs k ≤ 225 * k :=
  acc_bd 225 (by omega) (fun i hi => by
    have h1 := h i hi
    unfold fWork
    split
    · have h2 := Int.mul_nonneg (show 0 ≤ xs[i]?.getD 0 - 1 by omega) (show 0 ≤ xs[i]?.getD 0 - 1 by omega)
      have h3 := Int.mul_le_mul (show xs[i]?.getD 0 - 1 ≤ 15 by omega) (show xs[i]?.getD 0 - 1 ≤ 15 by omega) (by omega) (by omega)
      omega
    · omega)
theorem vpat_thr {xs : List Int} (h : vpat xs = true) : thr xs = true := by
  unfold vpat at h
  rw [Bool.and_eq_true] at h
  exact h.1
/-- The throw at a beat. -/
def thAt (xs : List Int) (b : Int) : Int := (xs[(b % (xs.length : Int)).toNat]?).getD 0
theorem thAt_bd {xs : List Int} (h : vpat xs = true) (b : Int) : 0 ≤ thAt xs b ∧ thAt xs b ≤ 15 := by
  obtain ⟨h1, h2, h3⟩ := thr_iff.1 (vpat_thr h)
  have e1 := Int.emod_nonneg b (show (xs.length : Int) ≠ 0 by omega)
  have e2 := Int.emod_lt_of_pos b (show 0 < (xs.length : Int) by omega)
  exact h1 _ (by omega)
/-- The number of props. -/
def prp (xs : List Int) : Int := acc fSum xs xs.length / (xs.length : Int)
theorem prp_bd {xs : List Int} (h : vpat xs = true) : 0 ≤ prp xs ∧ prp xs ≤ 15 := by
  obtain ⟨h1, h2, h3⟩ := thr_iff.1 (vpat_thr h)
  have hb := acc_sum_bd (xs := xs) (k := xs.length) h1
  unfold prp
  constructor
  · exact Int.ediv_nonneg hb.1 (by omega)
  · exact Int.ediv_le_of_le_mul (by omega) hb.2
theorem acc_swing_bd {xs : List Int} {m : Int} {k : Nat} (hm : 0 ≤ m ∧ m ≤ 15) (h : ∀ i, i < k → 0 ≤ xs[i]?.getD 0 ∧ xs[i]?.getD 0 ≤ 15) : 0 ≤ acc (fSwing m) xs k ∧ acc (fSwing m) xs k ≤ 225 * k :=
  acc_bd 225 (by omega) (fun i hi => by
    have h1 := h i hi
    have h2 := mul_bd (a := xs[i]?.getD 0 - m) (b := xs[i]?.getD 0 - m) (A := 15) (B := 15) (by omega) (by omega)
    have h3 : 0 ≤ (xs[i]?.getD 0 - m) * (xs[i]?.getD 0 - m) := by rw [← Int.natAbs_mul_self]; exact Int.natCast_nonneg _
    unfold fSwing
    omega)
theorem thAt_nat {xs : List Int} {k : Nat} (hk : k < xs.length) : xs[k]?.getD 0 = thAt xs k := by
  unfold thAt
  rw [Int.emod_eq_of_lt (by omega) (by omega)]
  rfl
/-- How often throws differ from the ones before them. -/
def chg (xs : List Int) : Nat → Int
  | 0 => 0
  | k + 1 => chg xs k + if thAt xs k == thAt xs ((k : Int) - 1) then 0 else 1
theorem chg_bd (xs : List Int) (k : Nat) : 0 ≤ chg xs k ∧ chg xs k ≤ k := by
  induction k with
  | zero => simp [chg]
  | succ k ih =>
    simp only [chg]
    split <;> omega
end Go.Proofs.YtohmnilkmljioaaGreat
