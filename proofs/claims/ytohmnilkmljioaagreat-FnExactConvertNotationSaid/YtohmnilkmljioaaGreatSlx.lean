/- Slp Slq in one text (a claim has at most 60 files). No condition but the stated bounds. -/
import Derived.Test.YtohmnilkmljioaaGreatSld
import Derived.Test.YtohmnilkmljioaaGreatCla
import Derived.Test.YtohmnilkmljioaaGreatAlo
import Derived.Test.YtohmnilkmljioaaGreatThr3
namespace Go.Proofs.YtohmnilkmljioaaGreat
set_option linter.unusedVariables false
set_option linter.unusedSimpArgs false
open Go.ChangeShapes Go.WideShapes Go.ChangeAt Go.RowKit Go.Joins Go.Deep

theorem sld_get {ts : List (Int × Bool)} {m i : Nat} (h : i < m) : (sld ts m)[i]?.getD 0 = sdv (tv ts i) (tp ts i) i := by simp [sld, h]
theorem mod_two_mul (n a h : Nat) (hn : 0 < n) (hh : h < 2) : (2 * a + h) % (2 * n) = a % n * 2 + h := by
  have e1 : a = n * (a / n) + a % n := (Nat.div_add_mod a n).symm
  have e2 := Nat.mod_lt a hn
  have e3 : 2 * a + h = (a % n * 2 + h) + 2 * n * (a / n) := by
    have : 2 * a = 2 * (n * (a / n)) + 2 * (a % n) := by omega
    rw [this, Nat.mul_assoc]
    omega
  rw [e3, Nat.add_mul_mod_self_left, Nat.mod_eq_of_lt (by omega)]
/-- The slid throws land as the throws do. -/
theorem sld_lnd {ts : List (Int × Bool)} {n i : Nat} (hi : i < 2 * n) (hs : sok (tv ts i) (tp ts i) = true) : lnd (sld ts (2 * n)) i = (sl n ts i : Int) := by
  obtain ⟨s0, s1, s2, s3⟩ := sok_bd hs
  have hn : 0 < n := by omega
  unfold lnd
  rw [sld_len, sld_get hi]
  obtain ⟨u, hu⟩ : ∃ u : Nat, tv ts i = 2 * (u : Int) := ⟨((tv ts i) / 2).toNat, by omega⟩
  have hsl : sl n ts i = (i / 2 + u) % n * 2 + (if tp ts i then 1 - i % 2 else i % 2) := by
    unfold sl
    rw [hu, show (2 * (u : Int)).toNat / 2 = u by omega]
  rw [hsl]
  have key : ∀ (x h : Nat), h < 2 → (i : Int) + sdv (tv ts i) (tp ts i) i = ((2 * (i / 2 + u) + h : Nat) : Int) → (if tp ts i then 1 - i % 2 else i % 2) = h → ((i : Int) + sdv (tv ts i) (tp ts i) i) % ((2 * n : Nat) : Int) = (((i / 2 + u) % n * 2 + (if tp ts i then 1 - i % 2 else i % 2) : Nat) : Int) := by
    intro _ h hh e1 e2
    rw [e1, e2, ← Int.natCast_emod, mod_two_mul n _ h hn hh]
  rcases Nat.mod_two_eq_zero_or_one i with hm | hm
  · cases hp : tp ts i
    · rw [hp] at key
      refine key 0 0 (by omega) ?_ (by simp [hm])
      simp [sdv, hu]
      omega
    · rw [hp] at key
      refine key 0 1 (by omega) ?_ (by simp [hm])
      simp [sdv, hu, hm]
      omega
  · cases hp : tp ts i
    · rw [hp] at key
      refine key 0 1 (by omega) ?_ (by simp [hm])
      simp [sdv, hu]
      omega
    · rw [hp] at key
      refine key 0 0 (by omega) ?_ (by simp [hm])
      simp [sdv, hu, hm]
      omega
theorem vsyn_sld {ts : List (Int × Bool)} {n : Nat} (hl : ts.length = 2 * n) (h : vsyn ts = true) : vpat (sld ts (2 * n)) = true := by
  unfold vsyn at h
  rw [Bool.and_eq_true] at h
  obtain ⟨h1, h2⟩ := h
  obtain ⟨n1, n6, hs⟩ := slis_iff hl h1
  unfold vpat
  rw [Bool.and_eq_true]
  constructor
  · rw [thr_iff, sld_len]
    refine ⟨fun i hi => ?_, by omega, by omega⟩
    rw [sld_get hi]
    obtain ⟨s0, s1, s2, s3⟩ := sok_bd (hs i hi)
    unfold sdv
    cases hp : tp ts i
    · simp; omega
    · have : tv ts i ≠ 0 := fun e => by have := s3 e; rw [hp] at this; cases this
      simp
      split <;> omega
  · refine ncl_yes ?_
    rw [sld_len]
    unfold scl at h2
    rw [decide_eq_true_iff, hl, show 2 * n / 2 = n by omega] at h2
    intro j hj i hi e
    rw [sld_lnd hj (hs j hj), sld_lnd (by omega) (hs i (by omega))] at e
    exact h2 j hj i hi (by omega)
theorem sld_bd {ts : List (Int × Bool)} {n : Nat} (hl : ts.length = 2 * n) (h : vsyn ts = true) : ∀ y ∈ sld ts (2 * n), -9223372036854775808 ≤ y ∧ y ≤ 9223372036854775807 := fun y hy => by
  have hv := vsyn_sld hl h
  unfold vpat at hv
  rw [Bool.and_eq_true, thr_iff] at hv
  obtain ⟨i, hi, e⟩ := List.getElem_of_mem hy
  have := hv.1.1 i hi
  rw [List.getElem?_eq_getElem hi] at this
  simp [e] at this
  omega
end Go.Proofs.YtohmnilkmljioaaGreat

namespace Go.Proofs.YtohmnilkmljioaaGreat
set_option linter.unusedVariables false
set_option linter.unusedSimpArgs false
open Go.ChangeShapes Go.WideShapes Go.ChangeAt Go.RowKit Go.Joins Go.Deep

theorem vls_get {ts : List (Int × Bool)} {m i : Nat} (h : i < m) : (vls ts m)[i]?.getD 0 = tv ts i := by simp [vls, h]
theorem ljs_vls {b : Bool} {n : Nat} {ts : List (Int × Bool)} (hn1 : 1 ≤ n) (hn8 : n ≤ 8) (hb : ∀ i, i < n → 0 ≤ tv ts i ∧ tv ts i ≤ 15) (h0 : NoP ts n) (hd : (ljs b n ts n).Nodup) : vpat (vls ts n) = true := by
  unfold vpat
  rw [Bool.and_eq_true]
  constructor
  · rw [thr_iff, vls_len]
    exact ⟨fun i hi => by rw [vls_get hi]; exact hb i hi, by omega, by omega⟩
  · refine ncl_yes ?_
    rw [vls_len]
    intro j hj i hi e
    have hlen : (ljs b n ts n).length = n := by simp [ljs]
    have h3 := List.pairwise_iff_getElem.1 hd i j (by omega) (by omega) hi
    simp only [ljs, List.getElem_map, List.getElem_range] at h3
    have key : ∀ i, i < n → lnd (vls ts n) i = (((i + (tv ts i).toNat) % n : Nat) : Int) := fun i hi => by
      have := hb i hi
      unfold lnd
      rw [vls_len, vls_get hi, Int.natCast_emod, show ((i + (tv ts i).toNat : Nat) : Int) = (i : Int) + tv ts i by omega]
    rw [key i (by omega), key j hj] at e
    refine h3 ?_
    unfold lj
    rw [h0 i (by omega), h0 j hj]
    have e' : (i + (tv ts i).toNat) % n = (j + (tv ts j).toNat) % n := by omega
    rw [e']
theorem vpas_vls {ts us : List (Int × Bool)} {n : Nat} (hl : ts.length = n) (hu : us.length = n) (h : vpas ts us = true) (h0 : NoP ts n) (h1 : NoP us n) : vpat (vls ts n) = true ∧ vpat (vls us n) = true := by
  unfold vpas at h
  rw [Bool.and_eq_true, decide_eq_true_iff, hl] at h
  obtain ⟨hf, hd⟩ := h
  unfold fpas at hf
  simp only [Bool.and_eq_true, btw_iff] at hf
  obtain ⟨⟨⟨hb, _⟩, ha⟩, hc⟩ := hf
  unfold allp at ha hc
  rw [decide_eq_true_iff] at ha hc
  rw [hl] at ha hb
  rw [hu] at hc
  have pb : ∀ (v : Int) (p : Bool), pok v p = true → 0 ≤ v ∧ v ≤ 15 := fun v p h => by
    unfold pok at h
    rw [Bool.and_eq_true, btw_iff] at h
    exact h.1
  have hd2 := List.nodup_append.1 hd
  exact ⟨ljs_vls (by omega) (by omega) (fun i hi => pb _ _ (ha i hi)) h0 hd2.1, ljs_vls (by omega) (by omega) (fun i hi => pb _ _ (hc i hi)) h1 hd2.2.1⟩
end Go.Proofs.YtohmnilkmljioaaGreat
