/- Plain laws of juggling: each beat is landed at once, and as many props are in the air between two beats as the average throw says. No program. -/
import Derived.Test.YtbldhfmhipdniaaHin
namespace Go.Proofs.Ytbldhfmhipdniaa
set_option linter.unusedVariables false
set_option linter.unusedSimpArgs false

/-- A sum of the first k values. -/
def sm (f : Nat → Int) : Nat → Int
  | 0 => 0
  | k + 1 => sm f k + f k
theorem sm_congr {f g : Nat → Int} {k : Nat} (h : ∀ i, i < k → f i = g i) : sm f k = sm g k := by
  induction k with
  | zero => rfl
  | succ k ih => simp only [sm]; rw [ih (fun i hi => h i (by omega)), h k (by omega)]
theorem sm_add (f g : Nat → Int) (k : Nat) : sm (fun i => f i + g i) k = sm f k + sm g k := by
  induction k with
  | zero => rfl
  | succ k ih => simp only [sm]; rw [ih]; omega
theorem sm_zero {f : Nat → Int} {k : Nat} (h : ∀ i, i < k → f i = 0) : sm f k = 0 := by
  induction k with
  | zero => rfl
  | succ k ih => simp only [sm]; rw [ih (fun i hi => h i (by omega)), h k (by omega)]; rfl
theorem sm_head (f : Nat → Int) (k : Nat) : sm f (k + 1) = f 0 + sm (fun i => f (i + 1)) k := by
  induction k with
  | zero => simp [sm]
  | succ k ih =>
    rw [sm, ih]
    simp only [sm]
    omega
theorem sm_nonneg {f : Nat → Int} {k : Nat} (h : ∀ i, i < k → 0 ≤ f i) : 0 ≤ sm f k := by
  induction k with
  | zero => exact Int.le_refl _
  | succ k ih => simp only [sm]; have := ih (fun i hi => h i (by omega)); have := h k (by omega); omega
theorem sm_swap (f : Nat → Nat → Int) (k n : Nat) : sm (fun i => sm (fun j => f i j) n) k = sm (fun j => sm (fun i => f i j) k) n := by
  induction k with
  | zero => simp only [sm]; exact (sm_zero fun _ _ => rfl).symm
  | succ k ih =>
    simp only [sm]
    rw [ih, ← sm_add]
theorem sm_const (c : Int) (k : Nat) : sm (fun _ => c) k = c * k := by
  induction k with
  | zero => simp [sm]
  | succ k ih => simp only [sm]; rw [ih, Int.natCast_add, Int.mul_add]; simp
/-- 1 if it is so. -/
def ind (p : Prop) [Decidable p] : Int := if p then 1 else 0
theorem ind_pos {p : Prop} [Decidable p] (h : p) : ind p = 1 := if_pos h
theorem ind_neg {p : Prop} [Decidable p] (h : ¬ p) : ind p = 0 := if_neg h
theorem ind_bd (p : Prop) [Decidable p] : 0 ≤ ind p ∧ ind p ≤ 1 := by unfold ind; split <;> omega
theorem ind_congr {p q : Prop} [Decidable p] [Decidable q] (h : p ↔ q) : ind p = ind q := by
  unfold ind
  by_cases hp : p
  · rw [if_pos hp, if_pos (h.1 hp)]
  · rw [if_neg hp, if_neg (fun hq => hp (h.2 hq))]
theorem sm_one {p : Nat → Prop} [DecidablePred p] {k : Nat} (h : ∀ i j, i < k → j < k → p i → p j → i = j) : sm (fun i => ind (p i)) k ≤ 1 := by
  induction k with
  | zero => simp [sm]
  | succ k ih =>
    simp only [sm]
    by_cases hk : p k
    · rw [ind_pos hk, sm_zero fun i hi => ind_neg fun hp => by have := h i k (by omega) (by omega) hp hk; omega]
      omega
    · rw [ind_neg hk]
      have := ih fun i j hi hj => h i j (by omega) (by omega)
      omega
theorem sm_has {p : Nat → Prop} [DecidablePred p] {k : Nat} (h : 0 < sm (fun i => ind (p i)) k) : ∃ i, i < k ∧ p i := by
  induction k with
  | zero => simp [sm] at h
  | succ k ih =>
    by_cases hk : p k
    · exact ⟨k, by omega, hk⟩
    · simp only [sm] at h
      rw [ind_neg hk, Int.add_zero] at h
      obtain ⟨i, hi, hp⟩ := ih h
      exact ⟨i, by omega, hp⟩
theorem sm_ge {p : Nat → Prop} [DecidablePred p] {k i : Nat} (hi : i < k) (hp : p i) : 1 ≤ sm (fun i => ind (p i)) k := by
  induction k with
  | zero => omega
  | succ k ih =>
    simp only [sm]
    have h0 := ind_bd (p k)
    by_cases e : i = k
    · subst e
      rw [ind_pos hp]
      have := sm_nonneg (f := fun i => ind (p i)) (k := i) (fun j _ => (ind_bd _).1)
      omega
    · have := ih (by omega)
      omega

/-- An endless pattern: throws from 0 to 15, n beats and then again, no two of which land at one beat. -/
structure Endless (h : Int → Int) (n : Nat) : Prop where
  bd : ∀ b, 0 ≤ h b ∧ h b ≤ 15
  per : ∀ b, h (b + n) = h b
  inj : ∀ a b, a + h a = b + h b → a = b
  pos : 0 < n
section
variable {h : Int → Int} {n : Nat}
/-- How many of the throws up to the beat q land later. -/
def crs (h : Int → Int) (q : Int) : Int := sm (fun i => ind (h (q - i) > i)) 16
/-- How many earlier throws land at the beat z. -/
def lan (h : Int → Int) (z : Int) : Int := sm (fun i => ind (h (z - 1 - i) = i + 1)) 16
theorem crs_step (e : Endless h n) (q : Int) : crs h (q + 1) = crs h q - lan h (q + 1) + ind (h (q + 1) > 0) := by
  have h15 := e.bd (q - (15 : Nat))
  have e1 : crs h (q + 1) = ind (h (q + 1) > 0) + sm (fun i => ind (h (q - i) > i + 1)) 15 := by
    unfold crs
    rw [sm_head]
    congr 1
    · apply ind_congr
      simp
    · apply sm_congr
      intro i hi
      apply ind_congr
      rw [show q + 1 - ((i + 1 : Nat) : Int) = q - i by omega]
      omega
  have e2 : sm (fun i => ind (h (q - i) > i + 1)) 15 = sm (fun i => ind (h (q - i) > i + 1)) 16 := by
    have e0 : sm (fun i => ind (h (q - i) > i + 1)) 16 = sm (fun i => ind (h (q - i) > i + 1)) 15 + ind (h (q - ((15 : Nat) : Int)) > ((15 : Nat) : Int) + 1) := rfl
    rw [e0, ind_neg (p := h (q - ((15 : Nat) : Int)) > ((15 : Nat) : Int) + 1) (by omega)]
    omega
  have e3 : crs h q = sm (fun i => ind (h (q - i) > i + 1)) 16 + lan h (q + 1) := by
    unfold crs lan
    rw [← sm_add]
    apply sm_congr
    intro i hi
    rw [show q + 1 - 1 - (i : Int) = q - i by omega]
    unfold ind
    by_cases a : h (q - i) > i + 1
    · rw [if_pos (by omega), if_pos a, if_neg (by omega)]; rfl
    · by_cases b : h (q - i) = i + 1
      · rw [if_pos (by omega), if_neg a, if_pos b]; rfl
      · rw [if_neg (by omega), if_neg a, if_neg b]; rfl
  rw [e1, e2, e3]
  omega
theorem lan_le (e : Endless h n) (z : Int) : lan h z ≤ ind (h z > 0) := by
  unfold lan
  by_cases hz : h z > 0
  · rw [ind_pos hz]
    apply sm_one
    intro i j _ _ hi hj
    have := e.inj (z - 1 - i) (z - 1 - j) (by omega)
    omega
  · rw [ind_neg hz, sm_zero]
    · exact Int.le_refl _
    · intro i _
      apply ind_neg
      intro hi
      have h0 := e.bd z
      have := e.inj (z - 1 - i) z (by omega)
      omega
theorem crs_mono (e : Endless h n) (q : Int) (k : Nat) : crs h q ≤ crs h (q + k) := by
  induction k with
  | zero => rw [show q + ((0 : Nat) : Int) = q by omega]; exact Int.le_refl _
  | succ k ih =>
    have h1 := crs_step e (q + k)
    have h2 := lan_le e (q + k + 1)
    rw [show q + ((k + 1 : Nat) : Int) = q + k + 1 by omega]
    omega
theorem crs_per (e : Endless h n) (q : Int) : crs h (q + n) = crs h q := by
  unfold crs
  apply sm_congr
  intro i _
  rw [show q + n - (i : Int) = q - i + n by omega, e.per]
theorem crs_next (e : Endless h n) (q : Int) : crs h (q + 1) = crs h q := by
  have h1 := crs_mono e q 1
  have h2 := crs_mono e (q + 1) (n - 1)
  have hn := e.pos
  rw [show q + 1 + ((n - 1 : Nat) : Int) = q + n by omega, crs_per e] at h2
  rw [show q + ((1 : Nat) : Int) = q + 1 by omega] at h1
  omega
/-- Each beat at which something is thrown is landed at once. -/
theorem lan_eq (e : Endless h n) (z : Int) : lan h z = ind (h z > 0) := by
  have h1 := crs_step e (z - 1)
  have h2 := crs_next e (z - 1)
  rw [show z - 1 + 1 = z by omega] at h1 h2
  omega
theorem crs_const (e : Endless h n) (q : Int) : crs h q = crs h 0 := by
  have up : ∀ k : Nat, crs h (k : Int) = crs h 0 := fun k => by
    induction k with
    | zero => rfl
    | succ k ih => rw [show ((k + 1 : Nat) : Int) = (k : Int) + 1 by omega, crs_next e, ih]
  have dn : ∀ k : Nat, crs h (-(k : Int)) = crs h 0 := fun k => by
    induction k with
    | zero => rfl
    | succ k ih => rw [← ih, show -(k : Int) = -((k + 1 : Nat) : Int) + 1 by omega, crs_next e]
  rcases Int.lt_or_le q 0 with hq | hq
  · have := dn (-q).toNat
    rwa [show -(((-q).toNat : Nat) : Int) = q by omega] at this
  · have := up q.toNat
    rwa [show ((q.toNat : Nat) : Int) = q by omega] at this
theorem sm_shift_one {g : Int → Int} (hp : ∀ b, g (b + n) = g b) (a : Int) : sm (fun i => g (a + 1 + i)) n = sm (fun i => g (a + i)) n := by
  have e1 := sm_head (fun i => g (a + i)) n
  simp only [sm] at e1
  have e2 : sm (fun i => g (a + ((i + 1 : Nat) : Int))) n = sm (fun i => g (a + 1 + i)) n := sm_congr fun i _ => by rw [show a + ((i + 1 : Nat) : Int) = a + 1 + i by omega]
  have e3 := hp a
  rw [e2, show a + ((0 : Nat) : Int) = a by omega] at e1
  omega
theorem sm_shift {g : Int → Int} (hp : ∀ b, g (b + n) = g b) (k : Nat) : sm (fun i => g ((i : Int) - k)) n = sm (fun i => g i) n := by
  induction k with
  | zero => exact sm_congr fun i _ => by rw [show (i : Int) - ((0 : Nat) : Int) = i by omega]
  | succ k ih =>
    rw [← ih]
    have := sm_shift_one hp (-((k + 1 : Nat) : Int))
    rw [sm_congr (g := fun i => g ((i : Int) - k)) (fun i _ => by rw [show -((k + 1 : Nat) : Int) + 1 + (i : Int) = i - k by omega]), sm_congr (f := fun i => g (-((k + 1 : Nat) : Int) + i)) (g := fun i => g ((i : Int) - ((k + 1 : Nat) : Int))) (fun i _ => by rw [show -((k + 1 : Nat) : Int) + (i : Int) = i - ((k + 1 : Nat) : Int) by omega])] at this
    exact this.symm
theorem sm_gt {x : Int} (k : Nat) (h0 : 0 ≤ x) (hk : x ≤ k) : sm (fun i => ind (x > i)) k = x := by
  have key : ∀ k : Nat, sm (fun i => ind (x > i)) k = if x ≤ k then x else k := fun k => by
    induction k with
    | zero => simp only [sm]; split <;> omega
    | succ k ih =>
      simp only [sm]
      rw [ih]
      unfold ind
      by_cases a : x ≤ k
      · rw [if_pos a, if_neg (by omega), if_pos (by omega)]; omega
      · rw [if_neg a, if_pos (by omega)]
        split <;> omega
  rw [key, if_pos hk]
/-- The average throw. -/
theorem crs_avg (e : Endless h n) (q : Int) : crs h q * n = sm (fun i => h i) n := by
  rw [crs_const e q, ← sm_const]
  rw [sm_congr (g := fun j => crs h j) (fun j _ => (crs_const e j).symm)]
  unfold crs
  rw [sm_swap]
  have e1 : ∀ i : Nat, sm (fun j => ind (h ((j : Int) - i) > i)) n = sm (fun j => ind (h j > i)) n := fun i =>
    sm_shift (g := fun b => ind (h b > i)) (fun b => by rw [e.per]) i
  rw [sm_congr (fun i _ => e1 i), sm_swap]
  exact sm_congr fun j _ => sm_gt 16 (e.bd j).1 (by have := (e.bd j).2; omega)
end
end Go.Proofs.Ytbldhfmhipdniaa
