/- Plain laws of passing patterns: exchanging passes keeps the sum and the validity, and leads back. No program in sight. -/
import Derived.Test.YtlalaomimfdepaaPsd6
namespace Go.Proofs.Ytlalaomimfdepaa
set_option linter.unusedVariables false
set_option linter.unusedSimpArgs false
open Go.RowKit

/-- Two lists with an element of each exchanged. -/
theorem perm_cross {α : Type} {l1 l2 : List α} {K : Nat} {a b : α} (h1 : K < l1.length) (h2 : K < l2.length) (ha : l1[K] = a) (hb : l2[K] = b) : (l1.set K b ++ l2.set K a).Perm (l1 ++ l2) := by
  have e1 : l1 = l1.take K ++ a :: l1.drop (K + 1) := by rw [← ha]; simp
  have e2 : l2 = l2.take K ++ b :: l2.drop (K + 1) := by rw [← hb]; simp
  have s1 : l1.set K b = l1.take K ++ b :: l1.drop (K + 1) := List.set_eq_take_append_cons_drop.trans (if_pos h1)
  have s2 : l2.set K a = l2.take K ++ a :: l2.drop (K + 1) := List.set_eq_take_append_cons_drop.trans (if_pos h2)
  rw [s1, s2]
  conv => rhs; rw [e1, e2]
  generalize l1.take K = A
  generalize l1.drop (K + 1) = B
  generalize l2.take K = C
  generalize l2.drop (K + 1) = D
  classical
  rw [List.perm_iff_count]
  intro x
  simp only [List.count_append, List.count_cons]
  omega
theorem lj_cross (n : Nat) (ts us : List (Int × Bool)) {K : Nat} (h : K < ts.length) : lj true n (ts.set K (tv us K, !tp us K)) K = lj false n us K := by
  unfold lj
  rw [tv_setL h, tp_setL h, if_pos rfl, if_pos rfl]
  cases tp us K <;> rfl
theorem lj_cross' (n : Nat) (ts us : List (Int × Bool)) {K : Nat} (h : K < us.length) : lj false n (us.set K (tv ts K, !tp ts K)) K = lj true n ts K := by
  unfold lj
  rw [tv_setL h, tp_setL h, if_pos rfl, if_pos rfl]
  cases tp ts K <;> rfl
theorem lj_far (b : Bool) (n : Nat) (ts : List (Int × Bool)) (x : Int × Bool) {K i : Nat} (h : K < ts.length) (hi : i ≠ K) : lj b n (ts.set K x) i = lj b n ts i := by
  unfold lj
  rw [tv_setL h, tp_setL h, if_neg hi, if_neg hi]
theorem ljs_set (b : Bool) (n : Nat) (ts : List (Int × Bool)) (x : Int × Bool) {K : Nat} (h : K < ts.length) (m : Nat) : ljs b n (ts.set K x) m = (ljs b n ts m).set K (lj b n (ts.set K x) K) := by
  apply List.ext_getElem
  · simp [ljs]
  · intro i h1 h2
    simp only [ljs, List.length_map, List.length_range] at h1
    rw [List.getElem_set]
    simp only [ljs, List.getElem_map, List.getElem_range]
    split
    · rename_i e; rw [e]
    · rename_i e; exact lj_far b n ts x h (fun e' => e e'.symm)
theorem psm_cross (ts us : List (Int × Bool)) {K : Nat} (h1 : K < ts.length) (h2 : K < us.length) (p q : Bool) (k : Nat) : psm (ts.set K (tv us K, p)) (us.set K (tv ts K, q)) k = psm ts us k := by
  induction k with
  | zero => rfl
  | succ k ih =>
    simp only [psm]
    rw [ih, tv_setL h1, tv_setL h2]
    by_cases e : k = K
    · subst e; rw [if_pos rfl, if_pos rfl]; omega
    · rw [if_neg e, if_neg e]
theorem ljs_cross (n : Nat) (ts us : List (Int × Bool)) {K : Nat} (h1 : K < ts.length) (h2 : K < us.length) (m : Nat) (hm : K < m) :
    (ljs true n (ts.set K (tv us K, !tp us K)) m ++ ljs false n (us.set K (tv ts K, !tp ts K)) m).Perm (ljs true n ts m ++ ljs false n us m) := by
  rw [ljs_set true n ts _ h1, ljs_set false n us _ h2, lj_cross n ts us h1, lj_cross' n ts us h2]
  refine perm_cross (by simp [ljs]; exact hm) (by simp [ljs]; exact hm) ?_ ?_ <;> simp [ljs]
/-- Exchanging twice leads back. -/
theorem set_cross (ts us : List (Int × Bool)) {K : Nat} (h1 : K < ts.length) (h2 : K < us.length) : (ts.set K (tv us K, !tp us K)).set K (tv (us.set K (tv ts K, !tp ts K)) K, !tp (us.set K (tv ts K, !tp ts K)) K) = ts := by
  rw [tv_setL h2, tp_setL h2, if_pos rfl, if_pos rfl, List.set_set, Bool.not_not]
  apply thr_ext (by simp)
  intro i _
  rw [tv_setL h1, tp_setL h1]
  by_cases e : i = K
  · subst e; rw [if_pos rfl, if_pos rfl]; exact ⟨rfl, rfl⟩
  · rw [if_neg e, if_neg e]; exact ⟨rfl, rfl⟩
theorem pok_not {v : Int} {p q : Bool} (h : pok v p = true) (hv : v ≠ 0) : pok v q = true := by
  unfold pok at h ⊢
  cases p <;> cases q <;> simp_all
theorem vpas_cross {ts us : List (Int × Bool)} (hv : vpas ts us = true) {K : Nat} (hK : K < ts.length) (ha : tv ts K ≠ 0) (hb : tv us K ≠ 0) : vpas (ts.set K (tv us K, !tp us K)) (us.set K (tv ts K, !tp ts K)) = true := by
  obtain ⟨g1, g2, g3, _, _⟩ := vpas_parts hv
  have hK2 : K < us.length := by omega
  unfold vpas at hv ⊢
  rw [Bool.and_eq_true, decide_eq_true_iff] at hv ⊢
  obtain ⟨hf, hn⟩ := hv
  rw [List.length_set]
  refine ⟨?_, (ljs_cross ts.length ts us hK hK2 ts.length hK).nodup_iff.2 hn⟩
  unfold fpas at hf ⊢
  simp only [Bool.and_eq_true, List.length_set] at hf ⊢
  obtain ⟨⟨⟨f1, f2⟩, f3⟩, f4⟩ := hf
  unfold allp at f3 f4
  have f3 := of_decide_eq_true f3
  have f4 := of_decide_eq_true f4
  refine ⟨⟨⟨f1, f2⟩, allp_yes fun i hi => ?_⟩, allp_yes fun i hi => ?_⟩
  · rw [List.length_set] at hi
    rw [tv_setL hK, tp_setL hK]
    by_cases e : i = K
    · subst e; rw [if_pos rfl, if_pos rfl]; exact pok_not (f4 i hK2) hb
    · rw [if_neg e, if_neg e]; exact f3 i hi
  · rw [List.length_set] at hi
    rw [tv_setL hK2, tp_setL hK2]
    by_cases e : i = K
    · subst e; rw [if_pos rfl, if_pos rfl]; exact pok_not (f3 i hK) ha
    · rw [if_neg e, if_neg e]; exact f4 i hi
/-- The other juggler's place. -/
def flp (x : Nat) : Nat := x / 2 * 2 + (1 - x % 2)
theorem flp_inj {x y : Nat} (h : flp x = flp y) : x = y := by
  unfold flp at h
  omega
theorem lj_flp (b : Bool) (n : Nat) (ts : List (Int × Bool)) (i : Nat) : lj (!b) n ts i = flp (lj b n ts i) := by
  unfold lj flp
  generalize (i + (tv ts i).toNat) % n = q
  cases tp ts i <;> cases b <;> simp <;> omega
theorem ljs_flp (b : Bool) (n : Nat) (ts : List (Int × Bool)) (k : Nat) : ljs (!b) n ts k = (ljs b n ts k).map flp := by
  unfold ljs
  rw [List.map_map]
  apply List.map_congr_left
  intro i _
  exact lj_flp b n ts i
theorem nodup_flp {l : List Nat} (h : l.Nodup) : (l.map flp).Nodup := by
  unfold List.Nodup at h ⊢
  rw [List.pairwise_map]
  exact h.imp fun hne e => hne (flp_inj e)
/-- The other juggler's pattern is valid. -/
theorem vpas_swap {ts us : List (Int × Bool)} (hv : vpas ts us = true) : vpas us ts = true := by
  obtain ⟨g1, g2, g3, _, _⟩ := vpas_parts hv
  unfold vpas at hv ⊢
  rw [Bool.and_eq_true, decide_eq_true_iff] at hv ⊢
  obtain ⟨hf, hn⟩ := hv
  refine ⟨?_, ?_⟩
  · unfold fpas at hf ⊢
    simp only [Bool.and_eq_true] at hf ⊢
    obtain ⟨⟨⟨f1, f2⟩, f3⟩, f4⟩ := hf
    exact ⟨⟨⟨by rw [g3]; exact f1, by rw [g3]; simp⟩, f4⟩, f3⟩
  · rw [g3]
    have h1 := nodup_flp hn
    rw [List.map_append, ← ljs_flp, ← ljs_flp] at h1
    exact (List.perm_append_comm).nodup_iff.1 h1
end Go.Proofs.Ytlalaomimfdepaa
