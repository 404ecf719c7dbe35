/- Plain laws of thrown props: all of them are seen after a while, and a prop is thrown again where it lands. No program in sight. -/
import Derived.Test.YtendemigegjbfaaPbt
import Derived.Test.YtendemigegjbfaaAcs
namespace Go.Proofs.Ytendemigegjbfaa
set_option linter.unusedVariables false
set_option linter.unusedSimpArgs false
section
variable {h : Int → Int} {n : Nat}
theorem cnt_old_eq (e : Endless h n) (k : Nat) : (pls h k).2 = old h k := by
  induction k with
  | zero =>
    show 0 = _
    unfold old
    rw [sm_zero]
    intro i _
    unfold ind
    rw [if_neg (by show ¬ (_ ∧ _ < ((0 : Nat) : Int)); omega)]
  | succ k ih =>
    have e1 : old h ((k + 1 : Nat) : Int) = old h k + sm (fun i => ind (h (-1 - i) > i ∧ -1 - (i : Int) + h (-1 - i) = k)) 16 := by
      unfold old
      rw [← sm_add]
      apply sm_congr
      intro i hi
      unfold ind
      by_cases a : h (-1 - i) > i
      · by_cases b : -1 - (i : Int) + h (-1 - i) < k
        · rw [if_pos ⟨a, by omega⟩, if_pos ⟨a, b⟩, if_neg (by omega)]; rfl
        · by_cases c : -1 - (i : Int) + h (-1 - i) = k
          · rw [if_pos ⟨a, by omega⟩, if_neg (fun x => b x.2), if_pos ⟨a, c⟩]; rfl
          · rw [if_neg (by omega), if_neg (fun x => b x.2), if_neg (fun x => c x.2)]; rfl
      · rw [if_neg (fun x => a x.1), if_neg (fun x => a x.1), if_neg (fun x => a x.1)]; rfl
    have fr : ∀ i : Nat, -1 - (i : Int) + h (-1 - i) = k → frm h k = -1 - i := fun i hi => frm_of e hi
    rw [e1, ← ih]
    by_cases h0 : h k = 0
    · rw [cnt_zero h0, sm_zero]
      · omega
      · intro i _
        unfold ind
        rw [if_neg]
        intro x
        have := fr i x.2
        rw [frm_self e h0] at this
        omega
    · by_cases h1 : frm h k < 0
      · rw [cnt_new h0 h1]
        have h2 := frm_bd e k
        have h4 := frm_add e k
        have h3 := sm_ge (p := fun i : Nat => h (-1 - i) > i ∧ -1 - (i : Int) + h (-1 - i) = k) (k := 16) (i := (-1 - frm h k).toNat) (by omega) (by
          rw [show -1 - (((-1 - frm h k).toNat : Nat) : Int) = frm h k by omega]
          omega)
        have h5 := sm_one (p := fun i : Nat => h (-1 - i) > i ∧ -1 - (i : Int) + h (-1 - i) = k) (k := 16) (fun i j _ _ hi hj => by
          have a1 := fr i hi.2
          have a2 := fr j hj.2
          omega)
        omega
      · rw [cnt_old h0 h1, sm_zero]
        · omega
        · intro i _
          unfold ind
          rw [if_neg]
          intro x
          have := fr i x.2
          omega
theorem old_all (e : Endless h n) (hb : ∀ b, 0 ≤ h b ∧ h b ≤ 15) (k : Nat) (hk : 15 ≤ k) : old h k = crs h (-1) := by
  unfold old crs
  apply sm_congr
  intro i _
  apply ind_congr
  have := hb (-1 - i)
  omega
/-- From the beat 15 on, all props have been seen. -/
theorem cnt_all (e : Endless h n) (hb : ∀ b, 0 ≤ h b ∧ h b ≤ 15) (k : Nat) (hk : 15 ≤ k) : (pls h k).2 = crs h (-1) := by
  rw [cnt_old_eq e, old_all e hb k hk]
/-- A prop is not thrown again ahead of where it lands. -/
theorem plr_apart (e : Endless h n) : ∀ j i : Nat, i < j → 0 ≤ plr h i → plr h i = plr h j → (i : Int) + h i ≤ j := by
  intro j
  induction j using Nat.strongRecOn with
  | ind j ih =>
    intro i hij h0 heq
    have hj0 : ¬ h j = 0 := fun a => by rw [plr_zero a] at heq; omega
    have hi0 : ¬ h i = 0 := fun a => by rw [plr_zero a] at h0; omega
    by_cases h1 : frm h j < 0
    · rw [plr_new hj0 h1] at heq
      have h2 := ((plr_bd e i).2 hi0).2
      have h3 := cnt_mono h (show i + 1 ≤ j by omega)
      omega
    · have h2 := frm_add e j
      have h3 := frm_bd e j
      have h5 := plr_old e hj0 h1
      obtain ⟨f, hf⟩ : ∃ f : Nat, frm h j = f := ⟨(frm h j).toNat, by omega⟩
      rw [hf, Int.toNat_natCast] at h5
      rw [hf] at h2
      have hfj : f < j := by
        rcases Nat.lt_or_ge f j with h6 | h6
        · exact h6
        · have : f = j := by omega
          subst this
          omega
      rcases Nat.lt_trichotomy i f with h6 | h6 | h6
      · have := ih f hfj i h6 h0 (heq.trans h5)
        omega
      · subst h6
        omega
      · have := ih i hij f h6 (by rw [← h5, ← heq]; exact h0) (h5.symm.trans heq.symm)
        omega
/-- The next throw of a prop is where it lands. -/
theorem plr_next (e : Endless h n) {a b : Nat} (hab : a < b) (h0 : 0 ≤ plr h a) (heq : plr h a = plr h b) (hno : ∀ c, a < c → c < b → plr h c ≠ plr h a) : (a : Int) + h a = b := by
  have hb0 : ¬ h b = 0 := fun x => by rw [plr_zero x] at heq; omega
  have ha0 : ¬ h a = 0 := fun x => by rw [plr_zero x] at h0; omega
  by_cases h1 : frm h b < 0
  · rw [plr_new hb0 h1] at heq
    have h2 := ((plr_bd e a).2 ha0).2
    have h3 := cnt_mono h (show a + 1 ≤ b by omega)
    omega
  · have h2 := frm_add e b
    have h3 := frm_bd e b
    have h5 := plr_old e hb0 h1
    obtain ⟨f, hf⟩ : ∃ f : Nat, frm h b = f := ⟨(frm h b).toNat, by omega⟩
    rw [hf, Int.toNat_natCast] at h5
    rw [hf] at h2
    have hfb : f < b := by
      rcases Nat.lt_or_ge f b with h6 | h6
      · exact h6
      · have : f = b := by omega
        subst this
        omega
    rcases Nat.lt_trichotomy f a with h6 | h6 | h6
    · have := plr_apart e a f h6 (by rw [← h5, ← heq]; exact h0) (h5.symm.trans heq.symm)
      omega
    · subst h6; exact h2
    · exact absurd (h5.symm.trans heq.symm) (hno f h6 hfb)
/-- What the air holds. -/
theorem air_law (e : Endless h n) (b : Nat) : airc h b ≤ crs h (-1) ∧ plr h b < crs h (-1) + (if plr h b < 0 then 1 else 0) ∧ (15 ≤ b → 0 ≤ plr h b → airc h b = crs h (-1) - 1) ∧ (15 ≤ b → plr h b < 0 → airc h b = crs h (-1)) := by
  have h1 := cnt_le_crs e b
  have h2 := cnt_le_crs e (b + 1)
  have h3 := plr_bd e b
  have h4 := cnt_bd h b
  have h5 := frm_bd e b
  have hA : airc h b ≤ crs h (-1) := by
    unfold airc
    split
    · exact h1
    · split <;> omega
  refine ⟨hA, ?_, fun hb h0 => ?_, fun hb h0 => ?_⟩
  · by_cases h0 : h b = 0
    · rw [h3.1 h0]
      simp only [Int.reduceNeg, show (-1 : Int) < 0 by omega, if_true]
      omega
    · have := (h3.2 h0).2
      split <;> omega
  · have h6 := cnt_all e e.bd b hb
    have hb0 : ¬ h b = 0 := fun x => by rw [h3.1 x] at h0; omega
    have h7 := (h3.2 hb0).2
    rw [cnt_old hb0 (by omega), h6] at h7
    unfold airc
    rw [if_neg (by omega), if_pos (by omega), h6]
  · have h6 := cnt_all e e.bd b hb
    unfold airc
    rw [if_pos h0, h6]
/-- The beats of a prop follow from each other. -/
theorem pbs_next (e : Endless h n) {p : Int} (hp : 0 ≤ p) (k : Nat) : ∀ i, i < (pbs h p k).length → ∃ a : Nat, (pbs h p k)[i]?.getD 0 = a ∧ a < k ∧ plr h a = p ∧ (i + 1 < (pbs h p k).length → (pbs h p k)[i + 1]?.getD 0 = (a : Int) + h a) ∧ (i + 1 = (pbs h p k).length → ∀ c, a < c → c < k → plr h c ≠ p) := by
  induction k with
  | zero => intro i hi; simp [pbs] at hi
  | succ k ih =>
    intro i hi
    by_cases hk : plr h k = p
    · rw [(pbs_yes hk).1] at hi ⊢
      rw [List.length_append, List.length_singleton] at hi ⊢
      by_cases h1 : i < (pbs h p k).length
      · obtain ⟨a, a1, a2, a3, a4, a5⟩ := ih i h1
        refine ⟨a, by rw [List.getElem?_append_left h1]; exact a1, by omega, a3, fun h2 => ?_, fun h2 => absurd h2 (by omega)⟩
        by_cases h3 : i + 1 < (pbs h p k).length
        · rw [List.getElem?_append_left h3]
          exact a4 h3
        · have h4 : i + 1 = (pbs h p k).length := by omega
          rw [List.getElem?_append_right (by omega), h4, Nat.sub_self]
          have := plr_next e a2 (by rw [a3]; exact hp) (a3.trans hk.symm) (fun c c1 c2 => by rw [a3]; exact a5 h4 c c1 c2)
          show (k : Int) = _
          omega
      · have h2 : i = (pbs h p k).length := by omega
        refine ⟨k, by rw [List.getElem?_append_right (by omega), h2, Nat.sub_self]; rfl, by omega, hk, fun h3 => absurd h3 (by omega), fun _ c c1 c2 => absurd c2 (by omega)⟩
    · rw [(pbs_no hk).1] at hi ⊢
      obtain ⟨a, a1, a2, a3, a4, a5⟩ := ih i hi
      refine ⟨a, a1, by omega, a3, a4, fun h2 c c1 c2 => ?_⟩
      by_cases h3 : c = k
      · subst h3; exact hk
      · exact a5 h2 c c1 (by omega)
end
end Go.Proofs.Ytendemigegjbfaa
