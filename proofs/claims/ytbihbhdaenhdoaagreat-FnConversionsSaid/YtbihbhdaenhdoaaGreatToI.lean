/- Contracts of the laws' own copies and comparisons of integer slices: toInt64S, eqInt64S. No condition but the stated bounds. -/
import Derived.Test.YtbihbhdaenhdoaaGreatSli
import Derived.Deep.OwnRows
namespace Go.Proofs.YtbihbhdaenhdoaaGreat
set_option linter.unusedVariables false
set_option linter.unusedSimpArgs false
open Go.RowKit Go.Joins

/-- Block g behind w is a row of n numbers, the first k of which are those of xs. -/
def Fill (w wr : World) (n : Nat) (xs : List Int) (k : Nat) : Prop :=
  ∃ cs : Array Value, wr.heap[w.heap.size]? = some (.cells cs 2 (0, 0)) ∧ cs.size = n ∧ (∀ j, j < k → cs[j]? = some (.int .i64 (xs[j]?.getD 0))) ∧ Ext w wr
theorem Fill.own {w wr : World} {n : Nat} {xs : List Int} (h : Fill w wr n xs n) (hl : xs.length = n) (hn : n ≤ 1000000000) : Own w wr (.slice (some ⟨w.heap.size, 0, none⟩) n n) xs := by
  obtain ⟨cs, hb, hs, hc, hx⟩ := h
  refine ⟨⟨by simp, .inr ⟨w.heap.size, n, cs, by rw [hl], Nat.le_refl _, hb, by omega, by unfold maxLen; omega, by omega, ?_⟩⟩, hx⟩
  apply List.ext_getElem?
  intro j
  rw [List.getElem?_take, List.getElem?_map]
  by_cases hj : j < n
  · have h1 := hc j hj
    rw [if_pos (by omega), Array.getElem?_toList, h1, List.getElem?_eq_getElem (show j < xs.length by omega)]
    rfl
  · rw [if_neg (by omega), List.getElem?_eq_none (by omega)]
    rfl
theorem Fill.cell {w wr : World} {n : Nat} {xs : List Int} {k : Nat} (h : Fill w wr n xs k) {j : Nat} (hj : j < n) : (∃ u, wr.cell? ⟨w.heap.size, j, none⟩ = some u) ∧ wr.frozen? ⟨w.heap.size, j, none⟩ = false := by
  obtain ⟨cs, hb, hs, hc, hx⟩ := h
  refine ⟨⟨cs[j]'(by omega), ?_⟩, unfrozen_of_block hb j⟩
  rw [cell_of_block hb j, Array.getElem?_eq_getElem (by omega)]
theorem Fill.store {w wr : World} {n : Nat} {xs : List Int} {k : Nat} (h : Fill w wr n xs k) (hk : k < n) : Fill w (wr.setCell ⟨w.heap.size, k, none⟩ (.int .i64 (xs[k]?.getD 0))) n xs (k + 1) := by
  obtain ⟨cs, hb, hs, hc, hx⟩ := h
  refine ⟨_, block_setCell hb _, by simpa using hs, fun j hj => ?_, hx.set (Nat.le_refl _) _⟩
  rw [Array.getElem?_setIfInBounds]
  by_cases e : k = j
  · subst e
    rw [if_pos rfl, if_pos (by omega)]
  · rw [if_neg e]
    exact hc j (by omega)
end Go.Proofs.YtbihbhdaenhdoaaGreat
