/- Plain laws of passing patterns: rotating keeps the validity, and leads back. No program in sight. -/
import Derived.Test.YtlalaomimfdepaaPpa
import Derived.Test.YtlalaomimfdepaaPsd7
namespace Go.Proofs.Ytlalaomimfdepaa
set_option linter.unusedVariables false
set_option linter.unusedSimpArgs false
open Go.RowKit

theorem nodup_ljs (n : Nat) (ts us : List (Int × Bool)) : (ljs true n ts n ++ ljs false n us n).Nodup ↔ (∀ i j, i < j → j < n → lj true n ts i ≠ lj true n ts j) ∧ (∀ i j, i < j → j < n → lj false n us i ≠ lj false n us j) ∧ ∀ i j, i < n → j < n → lj true n ts i ≠ lj false n us j := by
  rw [List.nodup_append]
  have key : ∀ (b : Bool) (vs : List (Int × Bool)), (ljs b n vs n).Nodup ↔ ∀ i j, i < j → j < n → lj b n vs i ≠ lj b n vs j := fun b vs => by
    unfold ljs List.Nodup
    rw [List.pairwise_iff_getElem]
    constructor
    · intro h i j hij hj
      have := h i j (by simp; omega) (by simp; omega) hij
      simpa using this
    · intro h i j hi hj hij
      simp at hi hj
      simpa using h i j hij hj
  rw [key, key]
  refine and_congr Iff.rfl (and_congr Iff.rfl ?_)
  constructor
  · intro h i j hi hj
    exact h _ (ljs_mem hi) _ (ljs_mem hj)
  · intro h x hx y hy
    simp only [ljs, List.mem_map, List.mem_range] at hx hy
    obtain ⟨i, hi, rfl⟩ := hx
    obtain ⟨j, hj, rfl⟩ := hy
    exact h i j hi hj
/-- Where a rotated throw comes from. -/
def sg (n : Nat) (by_ : Int) (i : Nat) : Nat := (((i : Int) + by_) % (n : Int)).toNat
theorem sg_lt {n : Nat} (hn : 0 < n) (by_ : Int) (i : Nat) : sg n by_ i < n := by
  have h1 := Int.emod_nonneg ((i : Int) + by_) (show (n : Int) ≠ 0 by omega)
  have h2 := Int.emod_lt_of_pos ((i : Int) + by_) (show 0 < (n : Int) by omega)
  unfold sg
  omega
theorem sg_eq {n : Nat} (hn : 0 < n) (by_ : Int) (i : Nat) : (sg n by_ i : Int) = ((i : Int) + by_) % n := by
  have h1 := Int.emod_nonneg ((i : Int) + by_) (show (n : Int) ≠ 0 by omega)
  unfold sg
  omega
theorem sg_back {n : Nat} (hn : 0 < n) (by_ : Int) {i : Nat} (hi : i < n) : sg n by_ (sg n (-by_) i) = i := by
  have e : (sg n by_ (sg n (-by_) i) : Int) = i := by
    rw [sg_eq hn, sg_eq hn, Int.emod_add_emod, show (i : Int) + -by_ + by_ = i by omega]
    exact Int.emod_eq_of_lt (by omega) (by omega)
  omega
theorem tv_rtk {ts : List (Int × Bool)} {by_ : Int} {k i : Nat} (hi : i < k) : tv (rtk ts by_ k) i = tv ts (sg ts.length by_ i) ∧ tp (rtk ts by_ k) i = tp ts (sg ts.length by_ i) := by
  unfold tv tp rtk
  simp [hi, rti, sg, tv, tp]
theorem rtk_back (ts : List (Int × Bool)) (by_ : Int) (hn : 0 < ts.length) : rtk (rtk ts by_ ts.length) (-by_) ts.length = ts := by
  apply thr_ext (by rw [rtk_len])
  intro i hi
  rw [rtk_len] at hi
  have hl := rtk_len ts by_ ts.length
  obtain ⟨a1, a2⟩ := tv_rtk (ts := rtk ts by_ ts.length) (by_ := -by_) hi
  rw [hl] at a1 a2
  obtain ⟨b1, b2⟩ := tv_rtk (ts := ts) (by_ := by_) (sg_lt hn (-by_) i)
  rw [a1, a2, b1, b2, sg_back hn by_ hi]
  exact ⟨rfl, rfl⟩
theorem sg_back' {n : Nat} (hn : 0 < n) (by_ : Int) {i : Nat} (hi : i < n) : sg n (-by_) (sg n by_ i) = i := by
  have := sg_back hn (-by_) hi
  rwa [Int.neg_neg] at this
/-- Where a landing goes by the rotation. -/
def gr (n : Nat) (by_ : Int) (x : Nat) : Nat := sg n (-by_) (x / 2) * 2 + x % 2
theorem gr_inj {n : Nat} (hn : 0 < n) (by_ : Int) {x y : Nat} (hx : x < 2 * n) (hy : y < 2 * n) (h : gr n by_ x = gr n by_ y) : x = y := by
  unfold gr at h
  have h1 : sg n (-by_) (x / 2) = sg n (-by_) (y / 2) := by omega
  have h2 := congrArg (sg n by_) h1
  rw [sg_back hn by_ (by omega), sg_back hn by_ (by omega)] at h2
  omega
theorem lj_rot (b : Bool) {n : Nat} {ts : List (Int × Bool)} (by_ : Int) (hn : ts.length = n) (h0 : 0 < n) {i : Nat} (hi : i < n) : lj b n (rtk ts by_ n) i = gr n by_ (lj b n ts (sg n by_ i)) := by
  obtain ⟨a1, a2⟩ := tv_rtk (ts := ts) (by_ := by_) hi
  rw [hn] at a1 a2
  unfold lj gr
  rw [a1, a2]
  generalize (tv ts (sg n by_ i)).toNat = v
  have hs : (if (tp ts (sg n by_ i) == b) = true then 1 else 0) ≤ 1 := by split <;> omega
  generalize (if (tp ts (sg n by_ i) == b) = true then 1 else 0) = s at *
  have e : sg n (-by_) ((sg n by_ i + v) % n) = (i + v) % n := by
    have e2 : (sg n (-by_) ((sg n by_ i + v) % n) : Int) = (((i + v) % n : Nat) : Int) := by
      rw [sg_eq h0]
      push_cast
      rw [sg_eq h0, Int.emod_add_emod, Int.add_assoc, Int.emod_add_emod, show ((i : Int) + by_ + ((v : Int) + -by_)) = i + v by omega]
    omega
  rw [show ((sg n by_ i + v) % n * 2 + s) / 2 = (sg n by_ i + v) % n by omega, show ((sg n by_ i + v) % n * 2 + s) % 2 = s by omega, e]
theorem vpas_rot {ts us : List (Int × Bool)} (hv : vpas ts us = true) (by_ : Int) : vpas (rtk ts by_ ts.length) (rtk us by_ us.length) = true := by
  obtain ⟨g1, g2, g3, _, _⟩ := vpas_parts hv
  have h0 : 0 < ts.length := g1
  rw [g3]
  unfold vpas at hv ⊢
  rw [Bool.and_eq_true, decide_eq_true_iff] at hv ⊢
  obtain ⟨hf, hn⟩ := hv
  rw [rtk_len]
  refine ⟨?_, ?_⟩
  · unfold fpas at hf ⊢
    simp only [Bool.and_eq_true, rtk_len] at hf ⊢
    obtain ⟨⟨⟨f1, f2⟩, f3⟩, f4⟩ := hf
    unfold allp at f3 f4
    have f3 := of_decide_eq_true f3
    have f4 := of_decide_eq_true f4
    refine ⟨⟨⟨f1, by simp⟩, allp_yes fun i hi => ?_⟩, allp_yes fun i hi => ?_⟩
    · rw [rtk_len] at hi
      obtain ⟨a1, a2⟩ := tv_rtk (ts := ts) (by_ := by_) hi
      rw [a1, a2]
      exact f3 _ (sg_lt h0 by_ i)
    · rw [rtk_len] at hi
      obtain ⟨a1, a2⟩ := tv_rtk (ts := us) (by_ := by_) hi
      rw [a1, a2]
      exact f4 _ (by rw [g3]; exact sg_lt h0 by_ i)
  · rw [nodup_ljs] at hn ⊢
    obtain ⟨n1, n2, n3⟩ := hn
    have ne : ∀ i j, i < j → j < ts.length → sg ts.length by_ i ≠ sg ts.length by_ j := fun i j hij hj e => by
      have := congrArg (sg ts.length (-by_)) e
      rw [sg_back' h0 by_ (by omega), sg_back' h0 by_ hj] at this
      omega
    refine ⟨fun i j hij hj e => ?_, fun i j hij hj e => ?_, fun i j hi hj e => ?_⟩
    · rw [lj_rot true by_ rfl h0 (by omega), lj_rot true by_ rfl h0 hj] at e
      have e2 := gr_inj h0 by_ (lj_lt h0 _ _) (lj_lt h0 _ _) e
      rcases Nat.lt_or_gt_of_ne (ne i j hij hj) with h1 | h1
      · exact n1 _ _ h1 (sg_lt h0 by_ j) e2
      · exact n1 _ _ h1 (sg_lt h0 by_ i) e2.symm
    · rw [lj_rot false by_ g3 h0 (by omega), lj_rot false by_ g3 h0 hj] at e
      have e2 := gr_inj h0 by_ (lj_lt h0 _ _) (lj_lt h0 _ _) e
      rcases Nat.lt_or_gt_of_ne (ne i j hij hj) with h1 | h1
      · exact n2 _ _ h1 (sg_lt h0 by_ j) e2
      · exact n2 _ _ h1 (sg_lt h0 by_ i) e2.symm
    · rw [lj_rot true by_ rfl h0 hi, lj_rot false by_ g3 h0 hj] at e
      exact n3 _ _ (sg_lt h0 by_ i) (sg_lt h0 by_ j) (gr_inj h0 by_ (lj_lt h0 _ _) (lj_lt h0 _ _) e)
end Go.Proofs.Ytlalaomimfdepaa
