/- Plain laws: how many props are in the air at the beats. No program. -/
import Derived.Test.YtbldhfmhipdniaaSrc
namespace Go.Proofs.Ytbldhfmhipdniaa
set_option linter.unusedVariables false
set_option linter.unusedSimpArgs false
section
variable {h : Int → Int} {n : Nat}
/-- How many of the throws before the beat 0 land from 0 on, before the beat k. -/
def old (h : Int → Int) (k : Int) : Int := sm (fun i => ind (h (-1 - i) > i ∧ -1 - (i : Int) + h (-1 - i) < k)) 16
theorem cnt_old_le (e : Endless h n) (k : Nat) : (pls h k).2 ≤ old h k := by
  induction k with
  | zero =>
    show 0 ≤ _
    exact sm_nonneg fun i _ => (ind_bd _).1
  | succ k ih =>
    have hm : old h k + (if frm h k < 0 then 1 else 0) ≤ old h ((k + 1 : Nat) : Int) := by
      have e1 : old h ((k + 1 : Nat) : Int) = old h k + sm (fun i => ind (h (-1 - i) > i ∧ -1 - (i : Int) + h (-1 - i) = k)) 16 := by
        unfold old
        rw [← sm_add]
        apply sm_congr
        intro i hi
        unfold ind
        by_cases a : h (-1 - i) > i
        · by_cases b : -1 - (i : Int) + h (-1 - i) < k
          · rw [if_pos ⟨a, by omega⟩, if_pos ⟨a, b⟩, if_neg (by omega)]; rfl
          · by_cases c : -1 - (i : Int) + h (-1 - i) = k
            · rw [if_pos ⟨a, by omega⟩, if_neg (fun x => b x.2), if_pos ⟨a, c⟩]; rfl
            · rw [if_neg (by omega), if_neg (fun x => b x.2), if_neg (fun x => c x.2)]; rfl
        · rw [if_neg (fun x => a x.1), if_neg (fun x => a x.1), if_neg (fun x => a x.1)]; rfl
      rw [e1]
      split
      · rename_i hf
        have h1 := frm_add e k
        have h2 := frm_bd e k
        have h3 := sm_ge (p := fun i : Nat => h (-1 - i) > i ∧ -1 - (i : Int) + h (-1 - i) = k) (k := 16) (i := (-1 - frm h k).toNat) (by omega) (by
          rw [show -1 - (((-1 - frm h k).toNat : Nat) : Int) = frm h k by omega]
          omega)
        omega
      · have h3 := sm_nonneg (f := fun i => ind (h (-1 - i) > i ∧ -1 - (i : Int) + h (-1 - i) = k)) (k := 16) (fun i _ => (ind_bd _).1)
        omega
    by_cases h0 : h k = 0
    · rw [cnt_zero h0]
      split at hm <;> omega
    · by_cases h1 : frm h k < 0
      · rw [cnt_new h0 h1]
        rw [if_pos h1] at hm
        omega
      · rw [cnt_old h0 h1]
        rw [if_neg h1] at hm
        omega
theorem old_crs (k : Int) : old h k ≤ crs h (-1) := by
  unfold old crs
  have : ∀ m : Nat, sm (fun i => ind (h (-1 - i) > i ∧ -1 - (i : Int) + h (-1 - i) < k)) m ≤ sm (fun i => ind (h (-1 - i) > i)) m := fun m => by
    induction m with
    | zero => exact Int.le_refl _
    | succ m ih =>
      simp only [sm]
      have : ind (h (-1 - m) > m ∧ -1 - (m : Int) + h (-1 - m) < k) ≤ ind (h (-1 - m) > m) := by
        unfold ind
        split <;> split <;> omega
      omega
  exact this 16
/-- No more props than there are. -/
theorem cnt_le_crs (e : Endless h n) (k : Nat) : (pls h k).2 ≤ crs h (-1) := Int.le_trans (cnt_old_le e k) (old_crs k)
/-- Which props have been seen. -/
theorem seen_iff (e : Endless h n) (k : Nat) {p : Int} (hp : 0 ≤ p) : (∃ i, i < k ∧ plr h i = p) ↔ p < (pls h k).2 := by
  induction k with
  | zero => simp [pls]; omega
  | succ k ih =>
    have step : (∃ i, i < k + 1 ∧ plr h i = p) ↔ (∃ i, i < k ∧ plr h i = p) ∨ plr h k = p := by
      constructor
      · rintro ⟨i, hi, hq⟩
        by_cases e' : i = k
        · subst e'; exact .inr hq
        · exact .inl ⟨i, by omega, hq⟩
      · rintro (⟨i, hi, hq⟩ | hq)
        · exact ⟨i, by omega, hq⟩
        · exact ⟨k, by omega, hq⟩
    rw [step, ih]
    have hb := plr_bd e k
    by_cases h0 : h k = 0
    · rw [cnt_zero h0, hb.1 h0]; omega
    · by_cases h1 : frm h k < 0
      · rw [cnt_new h0 h1, plr_new h0 h1]; omega
      · have := (hb.2 h0).2
        rw [cnt_old h0 h1] at this ⊢
        omega
/-- How many props are in the air at a beat. -/
def airc (h : Int → Int) (b : Nat) : Int := if plr h b < 0 then (pls h b).2 else if plr h b < (pls h b).2 then (pls h b).2 - 1 else (pls h b).2
/-- How many of the first j props are in the air at a beat. -/
def airn (h : Int → Int) (b : Nat) : Nat → Int
  | 0 => 0
  | j + 1 => airn h b j + if ¬ plr h b = j ∧ (j : Int) < (pls h b).2 then 1 else 0
theorem airn_bd (b j : Nat) : 0 ≤ airn h b j ∧ airn h b j ≤ j := by
  induction j with
  | zero => simp [airn]
  | succ j ih => simp only [airn]; split <;> omega
theorem airn_eq (b j : Nat) (hj : (pls h b).2 ≤ j) (hr : -1 ≤ plr h b) : airn h b j = airc h b := by
  have key : ∀ j : Nat, airn h b j = (if (j : Int) ≤ (pls h b).2 then (j : Int) else (pls h b).2) - (if 0 ≤ plr h b ∧ plr h b < j ∧ plr h b < (pls h b).2 then 1 else 0) := fun j => by
    have hc := cnt_bd h b
    induction j with
    | zero =>
      simp only [airn]
      rw [if_pos (show ((0 : Nat) : Int) ≤ (pls h b).2 by omega), if_neg (by omega)]
      rfl
    | succ j ih =>
      simp only [airn]
      rw [ih]
      split <;> split <;> split <;> split <;> split <;> omega
  have hc := cnt_bd h b
  rw [key]
  unfold airc
  split <;> split <;> split <;> (try split) <;> omega
theorem airc_bd (e : Endless h n) (b : Nat) : 0 ≤ airc h b ∧ airc h b ≤ b := by
  have h1 := cnt_bd h b
  have h2 := plr_rng e b
  unfold airc
  split
  · omega
  · split <;> omega
end
end Go.Proofs.Ytbldhfmhipdniaa
