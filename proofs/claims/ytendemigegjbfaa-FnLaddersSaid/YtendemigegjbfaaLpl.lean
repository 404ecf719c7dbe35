/- Plain laws of ladders: a picture of throws has no wrong line, and its columns tell its throws. No program in sight. -/
import Derived.Test.YtendemigegjbfaaPpl
import Derived.Test.YtendemigegjbfaaHlr
import Derived.Test.YtendemigegjbfaaLin5
namespace Go.Proofs.Ytendemigegjbfaa
set_option linter.unusedVariables false
set_option linter.unusedSimpArgs false
section
variable {h : Int → Int} {n N t : Nat}
theorem bt_lnb (i k : Nat) : bt ⟨(lnb h i N).toArray⟩ k = ((lnb h i N)[k]?.getD 0).toNat := by
  unfold bt
  simp
theorem bt_zero (e : Endless h n) {i : Nat} (hi : i < t) : hxv (bt (gs (ldl h N t) i) 0) = h i := by
  have hb := e.bd i
  have h2 : dgt (h i).toNat ≤ 102 := by unfold dgt; split <;> omega
  rw [ldl_get h N hi, bt_lnb]
  show hxv (UInt8.ofNat (dgt (h i).toNat)).toNat = _
  rw [show (UInt8.ofNat (dgt (h i).toNat)).toNat = dgt (h i).toNat by simp; omega, hxv_dgt (by omega)]
  omega
theorem bt_one {i : Nat} (hi : i < t) : bt (gs (ldl h N t) i) 1 = 32 := by
  rw [ldl_get h N hi, bt_lnb]
  rfl
theorem bt_col {i j : Nat} (hi : i < t) (hj : j < N) : (bt (gs (ldl h N t) i) (j + 2) : Int) = chr h i j := by
  rw [ldl_get h N hi, bt_lnb, ← ch8_eq]
  unfold lnb
  rw [List.getElem?_append_right (by simp)]
  simp [hj]
theorem bt_star {i j : Nat} (hi : i < t) (hj : j < N) : bt (gs (ldl h N t) i) (j + 2) = 42 ↔ plr h i = j := by
  have h1 := bt_col (h := h) (N := N) hi hj
  rcases chr_cases h i j with ⟨e, a⟩ | ⟨e, a, b⟩ | ⟨e, a, b⟩ <;> rw [e] at h1
  · exact ⟨fun _ => a, fun _ => by omega⟩
  · exact ⟨fun _ => by omega, fun x => absurd x a⟩
  · exact ⟨fun _ => by omega, fun x => absurd x a⟩
theorem sz_line {i : Nat} (hi : i < t) : (gs (ldl h N t) i).size = N + 2 := by
  rw [ldl_get h N hi]
  exact line_sz h i N
theorem ldl_lfm (e : Endless h n) (hN : N ≤ 15) (ht : t ≤ 60) : lfm (ldl h N t) = true := by
  unfold lfm
  refine decide_eq_true ⟨fun i hi => ?_, by rw [ldl_len]; exact ht⟩
  rw [ldl_len] at hi
  have hs0 : (gs (ldl h N t) 0).size = N + 2 := sz_line (by omega)
  refine ⟨by rw [sz_line hi, hs0], by rw [sz_line hi]; omega, by rw [sz_line hi]; omega, by rw [bt_zero e hi]; exact (e.bd i).1, bt_one hi, fun k hk h2 => ?_⟩
  rw [sz_line hi] at hk
  obtain ⟨j, rfl⟩ : ∃ j, k = j + 2 := ⟨k - 2, by omega⟩
  have h1 := bt_col (h := h) (N := N) (j := j) hi (by omega)
  unfold lgc
  apply decide_eq_true
  rcases chr_cases h i j with ⟨e, _⟩ | ⟨e, _⟩ | ⟨e, _⟩ <;> rw [e] at h1 <;> omega
/-- The stars of a line. -/
theorem stl_line {i : Nat} (hi : i < t) (k : Nat) (hk : k ≤ N) : stl (gs (ldl h N t) i) (k + 2) = if 0 ≤ plr h i ∧ plr h i < k then [plr h i + 2] else [] := by
  induction k with
  | zero => rw [stl_two, if_neg (by omega)]
  | succ k ih =>
    have ih := ih (by omega)
    by_cases hs : plr h i = k
    · rw [stl_hit (by omega) ((bt_star hi (by omega)).2 hs), ih, if_neg (by omega), if_pos (by omega), List.nil_append, hs]
      rfl
    · rw [stl_miss (fun x => hs ((bt_star hi (by omega)).1 x)), ih]
      by_cases h1 : 0 ≤ plr h i ∧ plr h i < k
      · rw [if_pos h1, if_pos (by omega)]
      · rw [if_neg h1, if_neg (by omega)]
theorem seek_at (f : Nat → Bool) (a : Int) (m j d : Nat) (hd : d < m) (hno : ∀ k, k < d → f (j + k) = false) (hf : f (j + d) = true) : seek f a j m = ((j + d : Nat) : Int) - a := by
  induction d generalizing j m with
  | zero => exact seek_hit (by omega) hf
  | succ d ih =>
    rw [seek_miss (by have := hno 0 (by omega); rwa [Nat.add_zero] at this) (by omega)]
    rw [ih (m - 1) (j + 1) (by omega) (fun k hk => by have := hno (k + 1) (by omega); rwa [show j + (k + 1) = j + 1 + k by omega] at this) (by rwa [show j + (d + 1) = j + 1 + d by omega] at hf)]
    omega
theorem seek_no (f : Nat → Bool) (a : Int) (m j : Nat) (hno : ∀ k, k < m → f (j + k) = false) : seek f a j m = -1 := by
  induction m generalizing j with
  | zero => rfl
  | succ m ih =>
    rw [seek_miss (by have := hno 0 (by omega); rwa [Nat.add_zero] at this) (by omega)]
    exact ih (j + 1) (fun k hk => by have := hno (k + 1) (by omega); rwa [show j + (k + 1) = j + 1 + k by omega] at this)
/-- A prop is thrown again where it lands. -/
theorem plr_land (e : Endless h n) {i j : Nat} (h0 : 0 < h i) (hj : (i : Int) + h i = j) : plr h j = plr h i := by
  have hf := frm_of e hj
  have hj0 : ¬ h j = 0 := fun x => by
    have := frm_self e x
    rw [hf] at this
    omega
  rw [plr_old e hj0 (by omega), hf, Int.toNat_natCast]
/-- What the columns tell. -/
theorem told_ldl (e : Endless h n) {i : Nat} (hi : i < t) (hp : plr h i < N) : told (ldl h N t) i = if (i : Int) + h i < t then h i else if h i = 0 then 0 else -1 := by
  have hb := e.bd i
  have hpr := plr_bd e i
  have hst := stl_line (h := h) (N := N) hi N (Nat.le_refl _)
  have hsz := sz_line (h := h) (N := N) hi
  by_cases h0 : h i = 0
  · rw [if_neg (by rw [hpr.1 h0]; omega)] at hst
    rw [told_none (by rw [hsz]; exact hst), h0]
    split <;> rfl
  · have hp0 := (hpr.2 h0).1
    rw [if_pos ⟨hp0, hp⟩] at hst
    obtain ⟨p, hpe⟩ : ∃ p : Nat, plr h i = p := ⟨(plr h i).toNat, by omega⟩
    rw [hpe] at hst
    have hst2 : stl (gs (ldl h N t) i) (gs (ldl h N t) i).size = [((p + 2 : Nat) : Int)] := by rw [hsz, hst]; rfl
    rw [told_one hst2, ldl_len]
    have hfj : ∀ j, j < t → (decide (bt (gs (ldl h N t) j) (p + 2) = 42) = true ↔ plr h j = p) := fun j hj => by
      rw [decide_eq_true_iff]
      exact bt_star hj (by omega)
    have hno : ∀ j, i < j → j < t → (j : Int) < i + h i → decide (bt (gs (ldl h N t) j) (p + 2) = 42) = false := fun j h1 h2 h3 => by
      rw [← Bool.not_eq_true]
      intro x
      have := plr_apart e j i h1 hp0 (by rw [hpe]; exact ((hfj j h2).1 x).symm)
      omega
    by_cases hl : (i : Int) + h i < t
    · rw [if_pos hl]
      obtain ⟨d, hd⟩ : ∃ d : Nat, h i = (d : Int) + 1 := ⟨(h i - 1).toNat, by omega⟩
      rw [seek_at (fun j => decide (bt (gs (ldl h N t) j) (p + 2) = 42)) i (t - (i + 1)) (i + 1) d (by omega) (fun k hk => hno _ (by omega) (by omega) (by omega)) ((hfj _ (by omega)).2 (by
        have := plr_land e (i := i) (j := i + 1 + d) (by omega) (by omega)
        rw [this, hpe]))]
      omega
    · rw [if_neg hl, if_neg h0]
      exact seek_no _ _ _ _ (fun k hk => hno _ (by omega) (by omega) (by omega))
theorem bef_ldl (e : Endless h n) {i j : Nat} (hi : i < t) (hj : j < N) : bef (ldl h N t) i (j + 2) = decide ((j : Int) < (pls h i).2) := by
  have hs := seen_iff e i (p := (j : Int)) (by omega)
  unfold bef
  apply decide_eq_decide.2
  rw [← hs]
  constructor
  · rintro ⟨k, hk, hb⟩
    exact ⟨k, hk, (bt_star (by omega) hj).1 hb⟩
  · rintro ⟨k, hk, hb⟩
    exact ⟨k, hk, (bt_star (by omega) hj).2 hb⟩
/-- No line is wrong. -/
theorem lrt_ldl (e : Endless h n) {i : Nat} (hi : i < t) (hp : plr h i < N) : lrt (ldl h N t) i = true := by
  have hb := e.bd i
  have hpr := plr_bd e i
  have hst := stl_line (h := h) (N := N) hi N (Nat.le_refl _)
  have hsz := sz_line (h := h) (N := N) hi
  have htl := told_ldl e hi hp
  have hm : (stl (gs (ldl h N t) i) (gs (ldl h N t) i).size).length ≤ 1 ∧ ((stl (gs (ldl h N t) i) (gs (ldl h N t) i).size).length = 0 ↔ h i = 0) := by
    rw [hsz, hst]
    by_cases h0 : h i = 0
    · rw [if_neg (by rw [hpr.1 h0]; omega)]
      simp [h0]
    · rw [if_pos ⟨(hpr.2 h0).1, hp⟩]
      simp [h0]
  refine lrt_yes ⟨hm.1, ?_, ?_, ?_⟩ (fun c hc h2 => ?_)
  · rw [bt_zero e hi]; exact hm.2
  · rw [bt_zero e hi, htl]
    split
    · intro _; rfl
    · split <;> intro hx <;> omega
  · rw [bt_zero e hi, htl, ldl_len]
    split
    · intro hx; omega
    · intro _; omega
  · rw [hsz] at hc
    obtain ⟨j, rfl⟩ : ∃ j, c = j + 2 := ⟨c - 2, by omega⟩
    have h1 := bt_col (h := h) (N := N) (j := j) hi (by omega)
    unfold lcol
    rw [bef_ldl e hi (by omega)]
    rcases chr_cases h i j with ⟨e, _⟩ | ⟨e, _, a⟩ | ⟨e, _, a⟩ <;> rw [e] at h1
    · exact ⟨fun x => by omega, fun x => by omega⟩
    · exact ⟨fun _ => decide_eq_true a, fun x => by omega⟩
    · exact ⟨fun x => by omega, fun _ => decide_eq_false a⟩
theorem ckl_ldl (e : Endless h n) (hN : N ≤ 15) (ht : t ≤ 60) (hp : ∀ i, plr h i < N) : ckl (ldl h N t) = -1 ∧ lfc (ldl h N t) = 0 := by
  have hl := ldl_lfm (h := h) (N := N) (t := t) e hN ht
  unfold ckl lfc
  rw [if_pos hl, if_pos hl]
  refine ⟨?_, rfl⟩
  unfold fwr
  refine seek_no _ _ _ _ (fun k hk => ?_)
  rw [ldl_len] at hk
  rw [Nat.zero_add, lrt_ldl e hk (hp k)]
  rfl
end
end Go.Proofs.Ytendemigegjbfaa
