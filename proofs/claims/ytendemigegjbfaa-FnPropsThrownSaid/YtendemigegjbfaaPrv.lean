/- Plain laws of drawn patterns: an order of landings, drawn by exchanges, makes a pattern. No program in sight. -/
import Derived.Test.YtendemigegjbfaaCla
namespace Go.Proofs.Ytendemigegjbfaa
set_option linter.unusedVariables false
set_option linter.unusedSimpArgs false
open Go.RowKit

/-- The numbers below k, each once. -/
def Ord (ys : List Int) (k : Nat) : Prop := ys.length = k ∧ (∀ i, i < k → 0 ≤ ys[i]?.getD 0 ∧ ys[i]?.getD 0 < k) ∧ ∀ i j, i < j → j < k → ys[i]?.getD 0 ≠ ys[j]?.getD 0
theorem Ord.zero : Ord [] 0 := ⟨rfl, fun i h => absurd h (by omega), fun i j _ h => absurd h (by omega)⟩
theorem Ord.step {ys : List Int} {k a : Nat} (h : Ord ys k) (ha : a ≤ k) : Ord (((ys ++ [(k : Int)]).set k ((ys ++ [(k : Int)])[a]?.getD 0)).set a (k : Int)) (k + 1) := by
  obtain ⟨hl, hb, hd⟩ := h
  have low : ∀ i, i < k → (ys ++ [(k : Int)])[i]?.getD 0 = ys[i]?.getD 0 := fun i hi => by rw [List.getElem?_append_left (by omega)]
  have top : (ys ++ [(k : Int)])[k]?.getD 0 = k := by rw [List.getElem?_append_right (by omega), hl]; simp
  have e : ∀ i, i < k + 1 → ((((ys ++ [(k : Int)]).set k ((ys ++ [(k : Int)])[a]?.getD 0)).set a (k : Int))[i]?.getD 0) = if i = a then (k : Int) else if i = k then ys[a]?.getD 0 else ys[i]?.getD 0 := fun i hi => by
    by_cases h1 : i = a
    · subst h1
      rw [if_pos rfl, List.getElem?_set_self (by simp; omega)]
      rfl
    · rw [if_neg h1, List.getElem?_set_ne (fun h => h1 h.symm)]
      by_cases h2 : i = k
      · subst h2
        rw [if_pos rfl, List.getElem?_set_self (by simp; omega)]
        simp only [Option.getD_some]
        exact low a (by omega)
      · rw [if_neg h2, List.getElem?_set_ne (fun h => h2 h.symm)]
        exact low i (by omega)
  refine ⟨by simp [hl], fun i hi => ?_, fun i j hij hj => ?_⟩
  · rw [e i hi]
    by_cases h1 : i = a
    · rw [if_pos h1]; omega
    · rw [if_neg h1]
      by_cases h2 : i = k
      · rw [if_pos h2]; have := hb a (by omega); omega
      · rw [if_neg h2]; have := hb i (by omega); omega
  · rw [e i (by omega), e j hj]
    have bi : i < k → ys[i]?.getD 0 < k := fun h => (hb i h).2
    have bj : j < k → ys[j]?.getD 0 < k := fun h => (hb j h).2
    have ba : a < k → ys[a]?.getD 0 < k := fun h => (hb a h).2
    by_cases h1 : i = a
    · rw [if_pos h1, if_neg (by omega)]
      by_cases h2 : j = k
      · rw [if_pos h2]; have := ba (by omega); omega
      · rw [if_neg h2]; have := bj (by omega); omega
    · rw [if_neg h1, if_neg (by omega)]
      by_cases h3 : j = a
      · rw [if_pos h3]; have := bi (by omega); omega
      · rw [if_neg h3]
        by_cases h2 : j = k
        · rw [if_pos h2]
          rcases Nat.lt_or_ge i a with h4 | h4
          · exact hd i a h4 (by omega)
          · exact fun h5 => hd a i (by omega) (by omega) h5.symm
        · rw [if_neg h2]
          exact hd i j hij (by omega)
/-- The first j throws lead to the landings. -/
def Thru (ys zs : List Int) (k j : Nat) : Prop := zs.length = j ∧ ∀ i, i < j → (0 ≤ zs[i]?.getD 0 ∧ zs[i]?.getD 0 ≤ 9) ∧ ((i : Int) + zs[i]?.getD 0) % (k : Int) = ys[i]?.getD 0
theorem Thru.zero (ys : List Int) (k : Nat) : Thru ys [] k 0 := ⟨rfl, fun i h => absurd h (by omega)⟩
theorem Thru.step {ys zs : List Int} {k j : Nat} {t : Int} (h : Thru ys zs k j) (ht : 0 ≤ t ∧ t ≤ 9) (e : ((j : Int) + t) % (k : Int) = ys[j]?.getD 0) : Thru ys (zs ++ [t]) k (j + 1) := by
  obtain ⟨hl, hb⟩ := h
  refine ⟨by simp [hl], fun i hi => ?_⟩
  by_cases h1 : i < j
  · rw [List.getElem?_append_left (by omega)]
    exact hb i h1
  · obtain rfl : i = j := by omega
    rw [List.getElem?_append_right (by omega), hl, Nat.sub_self]
    exact ⟨ht, e⟩
theorem mod_land {y j k : Int} (hk : 0 < k) (hy : 0 ≤ y ∧ y < k) : (j + (y - j) % k) % k = y := by
  have h := Int.add_emod j (y - j) k
  have h2 := Int.add_emod j ((y - j) % k) k
  rw [Int.emod_emod] at h2
  rw [h2, ← h, show j + (y - j) = y by omega]
  exact Int.emod_eq_of_lt hy.1 hy.2
theorem mod_more (t k : Int) : (t + k) % k = t % k := by rw [Int.add_emod_right]
theorem Thru.pat {ys zs : List Int} {k : Nat} (h : Thru ys zs k k) (o : Ord ys k) (hk : 1 ≤ k ∧ k ≤ 12) : vpat zs = true := by
  obtain ⟨hl, hb⟩ := h
  unfold vpat
  rw [Bool.and_eq_true]
  refine ⟨thr_iff.2 ⟨fun i hi => by have := (hb i (by omega)).1; omega, by omega, by omega⟩, ncl_yes fun j hj i hi => ?_⟩
  unfold lnd
  rw [hl, (hb i (by omega)).2, (hb j (by omega)).2]
  exact o.2.2 i j hi (by omega)
end Go.Proofs.Ytendemigegjbfaa
