/- Plain laws: from where a throw came, and which props are thrown at the beats. No program. -/
import Derived.Test.YtbldhfmhipdniaaJua
namespace Go.Proofs.Ytbldhfmhipdniaa
set_option linter.unusedVariables false
set_option linter.unusedSimpArgs false

/-- How many beats ago the prop was thrown that lands at the beat z. -/
def ago (h : Int → Int) (z : Int) : Int := sm (fun i => if h (z - i) = i then (i : Int) else 0) 16
/-- The beat whose throw lands at the beat z. -/
def frm (h : Int → Int) (z : Int) : Int := z - ago h z
theorem sm_single {f : Nat → Int} {k i : Nat} (hi : i < k) (h : ∀ j, j < k → j ≠ i → f j = 0) : sm f k = f i := by
  induction k with
  | zero => omega
  | succ k ih =>
    simp only [sm]
    by_cases e : i = k
    · subst e
      rw [sm_zero fun j hj => h j (by omega) (by omega)]
      omega
    · rw [ih (by omega) (fun j hj hne => h j (by omega) hne), h k (by omega) (by omega)]
      omega
section
variable {h : Int → Int} {n : Nat}
theorem frm_of (e : Endless h n) {b z : Int} (hb : b + h b = z) : frm h z = b := by
  have h0 := e.bd b
  obtain ⟨i, hi⟩ : ∃ i : Nat, h b = i := ⟨(h b).toNat, by omega⟩
  have hz : z - (i : Int) = b := by omega
  have ha : ago h z = i := by
    unfold ago
    rw [sm_single (i := i) (by omega)]
    · rw [hz, if_pos hi]
    · intro j hj hne
      rw [if_neg]
      intro hj'
      have := e.inj (z - j) b (by omega)
      omega
  unfold frm
  omega
theorem frm_ex (e : Endless h n) (z : Int) : ∃ b, b + h b = z := by
  by_cases hz : h z > 0
  · have hl := lan_eq e z
    rw [ind_pos hz] at hl
    obtain ⟨i, _, hi⟩ := sm_has (p := fun i : Nat => h (z - 1 - i) = i + 1) (k := 16) (by unfold lan at hl; omega)
    exact ⟨z - 1 - i, by omega⟩
  · exact ⟨z, by have := e.bd z; omega⟩
theorem frm_add (e : Endless h n) (z : Int) : frm h z + h (frm h z) = z := by
  obtain ⟨b, hb⟩ := frm_ex e z
  rw [frm_of e hb]
  exact hb
theorem frm_bd (e : Endless h n) (z : Int) : z - 15 ≤ frm h z ∧ frm h z ≤ z := by
  have h1 := frm_add e z
  have h2 := e.bd (frm h z)
  omega
theorem frm_lt (e : Endless h n) {z : Int} (hz : 0 < h z) : frm h z < z := by
  have h1 := frm_add e z
  have h2 := e.bd (frm h z)
  rcases Int.lt_or_eq_of_le (frm_bd e z).2 with h3 | h3
  · exact h3
  · rw [h3] at h1
    omega
theorem frm_self (e : Endless h n) {z : Int} (hz : h z = 0) : frm h z = z := frm_of e (by omega)
end
/-- The props at the first beats, and how many have been seen. -/
def pls (h : Int → Int) : Nat → List Int × Int
  | 0 => ([], 0)
  | k + 1 => let r := pls h k
    if h k = 0 then (r.1 ++ [-1], r.2) else if frm h k < 0 then (r.1 ++ [r.2], r.2 + 1) else (r.1 ++ [(r.1)[(frm h k).toNat]?.getD 0], r.2)
theorem pls_zero {h : Int → Int} {k : Nat} (h0 : h k = 0) : pls h (k + 1) = ((pls h k).1 ++ [-1], (pls h k).2) := by
  simp only [pls]; rw [if_pos h0]
theorem pls_new {h : Int → Int} {k : Nat} (h0 : ¬ h k = 0) (h1 : frm h k < 0) : pls h (k + 1) = ((pls h k).1 ++ [(pls h k).2], (pls h k).2 + 1) := by
  simp only [pls]; rw [if_neg h0, if_pos h1]
theorem pls_old {h : Int → Int} {k : Nat} (h0 : ¬ h k = 0) (h1 : ¬ frm h k < 0) : pls h (k + 1) = ((pls h k).1 ++ [((pls h k).1)[(frm h k).toNat]?.getD 0], (pls h k).2) := by
  simp only [pls]; rw [if_neg h0, if_neg h1]
theorem pls_len (h : Int → Int) (k : Nat) : (pls h k).1.length = k := by
  induction k with
  | zero => rfl
  | succ k ih =>
    by_cases h0 : h k = 0
    · rw [pls_zero h0]; simp [ih]
    · by_cases h1 : frm h k < 0
      · rw [pls_new h0 h1]; simp [ih]
      · rw [pls_old h0 h1]; simp [ih]
/-- The prop at the beat i. -/
def plr (h : Int → Int) (i : Nat) : Int := (pls h (i + 1)).1[i]?.getD 0
theorem pls_app (h : Int → Int) (k : Nat) : (pls h (k + 1)).1 = (pls h k).1 ++ [plr h k] := by
  have hl := pls_len h k
  unfold plr
  by_cases h0 : h k = 0
  · rw [pls_zero h0]; simp [hl]
  · by_cases h1 : frm h k < 0
    · rw [pls_new h0 h1]; simp [hl]
    · rw [pls_old h0 h1]; simp [hl]
theorem pls_get (h : Int → Int) {k i : Nat} (hi : i < k) : (pls h k).1[i]?.getD 0 = plr h i := by
  induction k with
  | zero => omega
  | succ k ih =>
    rw [pls_app]
    have hl := pls_len h k
    by_cases e : i = k
    · subst e
      rw [List.getElem?_append_right (by omega), hl]
      simp
    · rw [List.getElem?_append_left (by omega)]
      exact ih (by omega)
theorem plr_zero {h : Int → Int} {k : Nat} (h0 : h k = 0) : plr h k = -1 := by
  unfold plr
  rw [pls_zero h0, List.getElem?_append_right (by rw [pls_len]; omega), pls_len]
  simp
theorem plr_new {h : Int → Int} {k : Nat} (h0 : ¬ h k = 0) (h1 : frm h k < 0) : plr h k = (pls h k).2 := by
  unfold plr
  rw [pls_new h0 h1, List.getElem?_append_right (by rw [pls_len]; omega), pls_len]
  simp
theorem plr_old {n : Nat} {h : Int → Int} (e : Endless h n) {k : Nat} (h0 : ¬ h k = 0) (h1 : ¬ frm h k < 0) : plr h k = plr h (frm h k).toNat := by
  have h3 := frm_lt e (z := k) (by have := e.bd k; omega)
  rw [← pls_get h (k := k) (i := (frm h k).toNat) (by omega)]
  unfold plr
  rw [pls_old h0 h1, List.getElem?_append_right (by rw [pls_len]; omega), pls_len]
  simp
theorem cnt_zero {h : Int → Int} {k : Nat} (h0 : h k = 0) : (pls h (k + 1)).2 = (pls h k).2 := by rw [pls_zero h0]
theorem cnt_new {h : Int → Int} {k : Nat} (h0 : ¬ h k = 0) (h1 : frm h k < 0) : (pls h (k + 1)).2 = (pls h k).2 + 1 := by rw [pls_new h0 h1]
theorem cnt_old {h : Int → Int} {k : Nat} (h0 : ¬ h k = 0) (h1 : ¬ frm h k < 0) : (pls h (k + 1)).2 = (pls h k).2 := by rw [pls_old h0 h1]
theorem cnt_bd (h : Int → Int) (k : Nat) : 0 ≤ (pls h k).2 ∧ (pls h k).2 ≤ k := by
  induction k with
  | zero => simp [pls]
  | succ k ih =>
    by_cases h0 : h k = 0
    · rw [cnt_zero h0]; omega
    · by_cases h1 : frm h k < 0
      · rw [cnt_new h0 h1]; omega
      · rw [cnt_old h0 h1]; omega
theorem cnt_step (h : Int → Int) (k : Nat) : (pls h k).2 ≤ (pls h (k + 1)).2 := by
  by_cases h0 : h k = 0
  · rw [cnt_zero h0]; omega
  · by_cases h1 : frm h k < 0
    · rw [cnt_new h0 h1]; omega
    · rw [cnt_old h0 h1]; omega
theorem cnt_mono (h : Int → Int) {i k : Nat} (hik : i ≤ k) : (pls h i).2 ≤ (pls h k).2 := by
  induction k with
  | zero => rw [Nat.le_zero.1 hik]; omega
  | succ k ih =>
    by_cases e : i = k + 1
    · subst e; omega
    · have := ih (by omega)
      have := cnt_step h k
      omega
/-- A prop at a beat: none, or one that has been seen, or the next one. -/
theorem plr_bd {n : Nat} {h : Int → Int} (e : Endless h n) (i : Nat) : (h i = 0 → plr h i = -1) ∧ (¬ h i = 0 → 0 ≤ plr h i ∧ plr h i < (pls h (i + 1)).2) := by
  induction i using Nat.strongRecOn with
  | ind i ih =>
    refine ⟨plr_zero, fun h0 => ?_⟩
    by_cases h1 : frm h i < 0
    · rw [plr_new h0 h1, cnt_new h0 h1]
      have := cnt_bd h i
      omega
    · rw [plr_old e h0 h1, cnt_old h0 h1]
      have h3 := frm_lt e (z := i) (by have := e.bd i; omega)
      have h4 := frm_add e i
      have hh : ¬ h ((frm h i).toNat : Int) = 0 := by rw [Int.toNat_of_nonneg (by omega)]; omega
      have h5 := (ih (frm h i).toNat (by omega)).2 hh
      have h6 := cnt_mono h (i := (frm h i).toNat + 1) (k := i) (by omega)
      omega
theorem plr_rng {n : Nat} {h : Int → Int} (e : Endless h n) (i : Nat) : -1 ≤ plr h i ∧ plr h i ≤ i := by
  have h1 := plr_bd e i
  have h2 := cnt_bd h (i + 1)
  by_cases h0 : h i = 0
  · have := h1.1 h0; omega
  · have := h1.2 h0; omega
theorem pls_rng {n : Nat} {h : Int → Int} (e : Endless h n) (k : Nat) : ∀ y ∈ (pls h k).1, -1 ≤ y ∧ y ≤ k := by
  intro y hy
  obtain ⟨i, hi, hy⟩ := List.getElem_of_mem hy
  have h1 := pls_get h (k := k) (i := i) (by rw [← pls_len h k]; exact hi)
  rw [List.getElem?_eq_getElem hi] at h1
  have h2 := plr_rng e i
  rw [pls_len] at hi
  simp at h1
  omega
end Go.Proofs.Ytbldhfmhipdniaa
