/- Drawn patterns: contracts of l02Draw and l02Bent. No condition but the stated bounds. -/
import Derived.Test.YtlalaomimfdepaaLsr
import Derived.Test.YtlalaomimfdepaaNum
namespace Go.Proofs.Ytlalaomimfdepaa
set_option linter.unusedVariables false
set_option linter.unusedSimpArgs false
open Go.RowKit Go.Joins

/-- A drawn list of numbers, in memory made behind w. -/
def DrawnL (w0 w : World) (g : Nat) (A : Option Addr) (n c : Nat) (xs : List Int) (top least : Nat) (high : Int) (e : Ending) (w' : World) : Prop :=
  ∃ (B : Option Addr) (m d : Nat) (ys : List Int), e = .returned (.slice B m d) ∧ w'.ownsRow w.heap.size 2 1 (.slice B m d) m (ys.map (Value.int .i64)) ∧ (least ≤ m ∧ m ≤ 20) ∧ (∀ y ∈ ys, -20 ≤ y ∧ y ≤ high) ∧ Srd w0 w' g A n c xs top ∧ w.grownBy w' (some g)
theorem own_keep {w w' : World} {lo g : Nat} {e : TypeId} {m n : Nat} {v : Value} {cs : List Value} (h : w.ownsRow lo e m v n cs) (hg : w.grownBy w' (some g)) (hlo : g < lo) : w'.ownsRow lo e m v n cs := by
  refine ⟨h.1, ?_⟩
  rcases h.2 with h0 | ⟨b, cap, cur, ev, hb, hh, rest⟩
  · exact .inl h0
  · exact .inr ⟨b, cap, cur, ev, hb, (hg.block b (Array.getElem?_eq_some_iff.1 hh).1 (by intro e; cases e; omega)).trans hh, rest⟩
theorem own_far {w w' : World} {lo : Nat} {e : TypeId} {m n : Nat} {v : Value} {cs : List Value} {row : Option Nat} (h : w.ownsRow lo e m v n cs) (hg : w.grownBy w' row) (hlo : ∀ k, row = some k → v.ownBlock ≠ some k) : w'.ownsRow lo e m v n cs := by
  refine ⟨h.1, ?_⟩
  rcases h.2 with h0 | ⟨b, cap, cur, ev, hb, hh, rest⟩
  · exact .inl h0
  · exact .inr ⟨b, cap, cur, ev, hb, (hg.block b (Array.getElem?_eq_some_iff.1 hh).1 (by intro e; exact hlo b e.symm (by rw [ev]; rfl))).trans hh, rest⟩
theorem own_ext {w w' : World} {lo : Nat} {e : TypeId} {m n : Nat} {v : Value} {cs : List Value} (h : w.ownsRow lo e m v n cs) (k : Ext w w') : w'.ownsRow lo e m v n cs := by
  refine ⟨h.1, ?_⟩
  rcases h.2 with h0 | ⟨b, cap, cur, ev, hb, hh, rest⟩
  · exact .inl h0
  · exact .inr ⟨b, cap, cur, ev, hb, (Below.block k b (Array.getElem?_eq_some_iff.1 hh).1).trans hh, rest⟩
theorem grown_own {a w w' : World} {g : Nat} {row : Option Nat} (h : a.grownBy w (some g)) (k : w.grownBy w' row) (hr : ∀ b, row = some b → a.heap.size ≤ b) : a.grownBy w' (some g) :=
  ⟨k.os.trans h.os, k.tape.trans h.tape, k.output.trans h.output, Nat.le_trans h.size k.size, fun i hi hne => (k.block i (Nat.lt_of_lt_of_le hi h.size) (by intro e; have := hr i e.symm; omega)).trans (h.block i hi hne)⟩
theorem grown_exts {a w w' : World} {row : Option Nat} (h : a.grownBy w row) (k : Ext w w') : a.grownBy w' row :=
  ⟨k.os.trans h.os, k.tape.trans h.tape, k.output.trans h.output, Nat.le_trans h.size k.size, fun i hi hne => (Below.block k i (Nat.lt_of_lt_of_le hi h.size)).trans (h.block i hi hne)⟩
theorem Srd.own {w0 w w' : World} {g n c top : Nat} {A : Option Addr} {xs : List Int} (h : Srd w0 w g A n c xs top) {row : Option Nat} (k : w.grownBy w' row) (hr : ∀ b, row = some b → g < b) : Srd w0 w' g A n c xs top :=
  h.apart k (by intro e; have := hr g e; omega) (h.ext.grown k (fun b hb => by have := hr b hb; have := h.born; omega))
theorem Srd.put {w0 w : World} {g n c top : Nat} {A : Option Addr} {xs : List Int} (h : Srd w0 w g A n c xs top) {p : Addr} (hp : g < p.block) (u : Value) : Srd w0 (w.setCell p u) g A n c xs top := by
  obtain ⟨q, z, h1, h2, h3, hb⟩ := h.at_
  exact ⟨h.byts, h.born, h.ext.set (by have := h.born; omega) u, q, z, h1, h2, h3, (Below.heap_setCell w p u g (fun e => by omega)).trans hb⟩
theorem grown_put {a w : World} {row : Option Nat} (h : a.grownBy w row) {p : Addr} (hp : a.heap.size ≤ p.block) (u : Value) : a.grownBy (w.setCell p u) row :=
  ⟨h.os, h.tape, h.output, by simpa [World.setCell] using h.size, fun i hi hne => (Below.heap_setCell w p u i (by omega)).trans (h.block i hi hne)⟩
theorem grown_new {a w : World} {row : Option Nat} (h : a.grownBy w row) (o : Obj) : a.grownBy (w.alloc o) row := grown_exts h ((Ext.refl _).alloc _)
theorem own_cell {w : World} {lo g n c : Nat} {ys : List Int} (h : w.ownsRow lo 2 1 (.slice (some ⟨g, 0, none⟩) n c) n (ys.map (Value.int .i64))) {p : Nat} (hp : p < n) : w.cell? ⟨g, p, none⟩ = some (.int .i64 (ys[p]?.getD 0)) ∧ w.frozen? ⟨g, p, none⟩ = false := by
  have hl : ys.length = n := by have := h.1; simpa using this
  refine ⟨?_, World.ownsRow.frozenAt h p⟩
  rw [World.ownsRow.cellAt h p (by omega), List.getElem?_map, List.getElem?_eq_getElem (show p < ys.length by omega)]
  rfl
theorem own_store {w : World} {lo g n c : Nat} {ys : List Int} (h : w.ownsRow lo 2 1 (.slice (some ⟨g, 0, none⟩) n c) n (ys.map (Value.int .i64))) (p : Nat) (v : Int) : (w.setCell ⟨g, p, none⟩ (.int .i64 v)).ownsRow lo 2 1 (.slice (some ⟨g, 0, none⟩) n c) n ((ys.set p v).map (Value.int .i64)) := by
  rw [List.map_set]
  exact (World.ownsRow.stored h p (.int .i64 v)).1
theorem getDbd {ys : List Int} {lo hi : Int} (h : ∀ y ∈ ys, lo ≤ y ∧ y ≤ hi) {i : Nat} (hi' : i < ys.length) : lo ≤ ys[i]?.getD 0 ∧ ys[i]?.getD 0 ≤ hi := by
  rw [List.getElem?_eq_getElem hi']
  exact h _ (List.getElem_mem _)
theorem set_bd {ys : List Int} {lo hi v : Int} (h : ∀ y ∈ ys, lo ≤ y ∧ y ≤ hi) (hv : lo ≤ v ∧ v ≤ hi) (i : Nat) : ∀ y ∈ ys.set i v, lo ≤ y ∧ y ≤ hi := fun y hy => by
  rcases List.mem_or_eq_of_mem_set hy with h1 | h1
  · exact h y h1
  · rw [h1]; exact hv
theorem app_bd {ys : List Int} {lo hi v : Int} (h : ∀ y ∈ ys, lo ≤ y ∧ y ≤ hi) (hv : lo ≤ v ∧ v ≤ hi) : ∀ y ∈ ys ++ [v], lo ≤ y ∧ y ≤ hi := fun y hy => by
  rw [List.mem_append] at hy
  rcases hy with h1 | h1
  · exact h y h1
  · simp at h1; rw [h1]; exact hv
theorem own_new (w : World) {lo : Nat} (h : lo ≤ w.heap.size) : (w.alloc (.cells #[] 2)).ownsRow lo 2 1 (.slice (some ⟨w.heap.size, 0, none⟩) 0 0) 0 (([] : List Int).map (Value.int .i64)) :=
  ⟨by simp, .inr ⟨w.heap.size, 0, #[], rfl, h, heap_alloc_new _ _, Nat.le_refl _, by simp [maxLen], by simp, by simp⟩⟩
end Go.Proofs.Ytlalaomimfdepaa
