/- Boxes of notations: what they hold, and how a function hands a notation back. Plain lemmas. -/
import Derived.Test.YtbihbhdaenhdoaaGreatNtn
namespace Go.Proofs.YtbihbhdaenhdoaaGreat
set_option linter.unusedVariables false
set_option linter.unusedSimpArgs false
open Go.ChangeShapes Go.WideShapes Go.ChangeAt Go.RowKit Go.Joins Go.Deep

theorem cell_oth {w : World} {a b : Addr} {v u : Value} (h : a ≠ b) (k : w.cell? b = some u) : (w.setCell a v).cell? b = some u := (World.cell?_setCell_other _ _ _ _ h).trans k
theorem cell_same {w : World} {a : Addr} {v u : Value} (k : w.cell? a = some u) : (w.setCell a v).cell? a = some v := World.cell?_setCell_same _ _ _ k
theorem froz_oth {w : World} {a b : Addr} {v : Value} {q : Bool} (k : w.frozen? b = q) : (w.setCell a v).frozen? b = q := by rw [World.frozen?_setCell]; exact k
theorem off_ne {g i j : Nat} (h : i ≠ j) : (⟨g, i, none⟩ : Addr) ≠ ⟨g, j, none⟩ := fun e => h (by injection e)
theorem blk_ne {g g' i j : Nat} (h : g ≠ g') : (⟨g, i, none⟩ : Addr) ≠ ⟨g', j, none⟩ := fun e => h (by injection e)
/-- A box of a notation. -/
structure NBox (w : World) (g : Nat) (V : NV) : Prop where
  lt : g < w.heap.size
  c0 : w.cell? ⟨g, 0, none⟩ = some (.int .i64 V.k)
  c1 : w.cell? ⟨g, 1, none⟩ = some (.slice V.A V.na V.ca)
  c2 : w.cell? ⟨g, 2, none⟩ = some (.slice V.B V.nb V.cb)
  c3 : w.cell? ⟨g, 3, none⟩ = some (.slice V.S V.ns V.cs)
  c4 : w.cell? ⟨g, 4, none⟩ = some (.slice V.P V.np V.cp)
  c5 : w.cell? ⟨g, 5, none⟩ = some (.slice V.Q V.nq V.cq)
theorem NBox.ext {w w' : World} {g : Nat} {V : NV} (h : NBox w g V) (k : Ext w w') : NBox w' g V :=
  ⟨Nat.lt_of_lt_of_le h.lt k.size, k.cell h.lt h.c0, k.cell h.lt h.c1, k.cell h.lt h.c2, k.cell h.lt h.c3, k.cell h.lt h.c4, k.cell h.lt h.c5⟩
theorem NBox.far {w : World} {g : Nat} {V : NV} (h : NBox w g V) {g' i : Nat} (hp : g' ≠ g) (v : Value) : NBox (w.setCell ⟨g', i, none⟩ v) g V :=
  ⟨by simpa [World.setCell] using h.lt, cell_oth (blk_ne hp) h.c0, cell_oth (blk_ne hp) h.c1, cell_oth (blk_ne hp) h.c2, cell_oth (blk_ne hp) h.c3, cell_oth (blk_ne hp) h.c4, cell_oth (blk_ne hp) h.c5⟩
theorem NBox.new (w : World) (V : NV) : NBox (w.alloc (.cells #[.int .i64 V.k, .slice V.A V.na V.ca, .slice V.B V.nb V.cb, .slice V.S V.ns V.cs, .slice V.P V.np V.cp, .slice V.Q V.nq V.cq] 33)) w.heap.size V :=
  ⟨by simp, by go_simp, by go_simp, by go_simp, by go_simp, by go_simp, by go_simp⟩
/-- Six cells that can be written. -/
structure Six (w : World) (g : Nat) : Prop where
  lt : g < w.heap.size
  c : ∀ i, i < 6 → ∃ u, w.cell? ⟨g, i, none⟩ = some u
  f : ∀ i, w.frozen? ⟨g, i, none⟩ = false
theorem Six.ext {w w' : World} {g : Nat} (h : Six w g) (k : Ext w w') : Six w' g :=
  ⟨Nat.lt_of_lt_of_le h.lt k.size, fun i hi => by obtain ⟨u, hu⟩ := h.c i hi; exact ⟨u, k.cell h.lt hu⟩, fun i => (k.cells.2 g i h.lt).trans (h.f i)⟩
theorem Six.set {w : World} {g : Nat} (h : Six w g) (p : Addr) (v : Value) : Six (w.setCell p v) g :=
  ⟨by simpa [World.setCell] using h.lt, fun i hi => by
    obtain ⟨u, hu⟩ := h.c i hi
    by_cases e : p = ⟨g, i, none⟩
    · subst e; exact ⟨v, cell_same hu⟩
    · exact ⟨u, cell_oth e hu⟩, fun i => froz_oth (h.f i)⟩
theorem Six.new (w : World) (u0 u1 u2 u3 u4 u5 : Value) (t : TypeId) : Six (w.alloc (.cells #[u0, u1, u2, u3, u4, u5] t)) w.heap.size :=
  ⟨by simp, fun i hi => by
    rcases (show i = 0 ∨ i = 1 ∨ i = 2 ∨ i = 3 ∨ i = 4 ∨ i = 5 by omega) with rfl | rfl | rfl | rfl | rfl | rfl
    · exact ⟨u0, by go_simp⟩
    · exact ⟨u1, by go_simp⟩
    · exact ⟨u2, by go_simp⟩
    · exact ⟨u3, by go_simp⟩
    · exact ⟨u4, by go_simp⟩
    · exact ⟨u5, by go_simp⟩, fun i => by first | exact World.frozen?_alloc_at _ _ _ _ rfl | exact World.frozen?_alloc_at _ _ _ _ _ rfl⟩
/-- A notation is stored. -/
theorem Six.store {w : World} {g : Nat} (h : Six w g) (V : NV) : NBox ((((((w.setCell ⟨g, 0, none⟩ (.int .i64 V.k)).setCell ⟨g, 1, none⟩ (.slice V.A V.na V.ca)).setCell ⟨g, 2, none⟩ (.slice V.B V.nb V.cb)).setCell ⟨g, 3, none⟩ (.slice V.S V.ns V.cs)).setCell ⟨g, 4, none⟩ (.slice V.P V.np V.cp)).setCell ⟨g, 5, none⟩ (.slice V.Q V.nq V.cq)) g V := by
  obtain ⟨u0, h0⟩ := h.c 0 (by omega)
  obtain ⟨u1, h1⟩ := h.c 1 (by omega)
  obtain ⟨u2, h2⟩ := h.c 2 (by omega)
  obtain ⟨u3, h3⟩ := h.c 3 (by omega)
  obtain ⟨u4, h4⟩ := h.c 4 (by omega)
  obtain ⟨u5, h5⟩ := h.c 5 (by omega)
  have o : ∀ i j, i ≠ j → (⟨g, i, none⟩ : Addr) ≠ ⟨g, j, none⟩ := fun i j h => off_ne h
  refine ⟨by simpa [World.setCell] using h.lt, ?_, ?_, ?_, ?_, ?_, ?_⟩
  · exact cell_oth (o 5 0 (by omega)) (cell_oth (o 4 0 (by omega)) (cell_oth (o 3 0 (by omega)) (cell_oth (o 2 0 (by omega)) (cell_oth (o 1 0 (by omega)) (cell_same h0)))))
  · exact cell_oth (o 5 1 (by omega)) (cell_oth (o 4 1 (by omega)) (cell_oth (o 3 1 (by omega)) (cell_oth (o 2 1 (by omega)) (cell_same (cell_oth (o 0 1 (by omega)) h1)))))
  · exact cell_oth (o 5 2 (by omega)) (cell_oth (o 4 2 (by omega)) (cell_oth (o 3 2 (by omega)) (cell_same (cell_oth (o 1 2 (by omega)) (cell_oth (o 0 2 (by omega)) h2)))))
  · exact cell_oth (o 5 3 (by omega)) (cell_oth (o 4 3 (by omega)) (cell_same (cell_oth (o 2 3 (by omega)) (cell_oth (o 1 3 (by omega)) (cell_oth (o 0 3 (by omega)) h3)))))
  · exact cell_oth (o 5 4 (by omega)) (cell_same (cell_oth (o 3 4 (by omega)) (cell_oth (o 2 4 (by omega)) (cell_oth (o 1 4 (by omega)) (cell_oth (o 0 4 (by omega)) h4)))))
  · exact cell_same (cell_oth (o 4 5 (by omega)) (cell_oth (o 3 5 (by omega)) (cell_oth (o 2 5 (by omega)) (cell_oth (o 1 5 (by omega)) (cell_oth (o 0 5 (by omega)) h5)))))
theorem loadVar_not {w : World} {g : Nat} {V : NV} (h : NBox w g V) : (loadVar 33 ⟨g, 0, none⟩).run Tryz.prog w = .ok V.val w := by
  obtain ⟨hl, h0, h1, h2, h3, h4, h5⟩ := h
  simp [go_sem, h0, h1, h2, h3, h4, h5]
  rfl
theorem results_not {fn : Func} {t : Tmp} (h : fn.results = #[.cell t 33]) {tmps : Array Value} {w : World} {g : Nat} {V : NV} (ht : tmps.getD t undef = .pointer (some ⟨g, 0, none⟩)) (hB : NBox w g V) :
    (results fn tmps).run Tryz.prog w = .ok V.val w := by
  have ht2 : tmps[t]?.getD undef = .pointer (some ⟨g, 0, none⟩) := by simpa using ht
  simp [results, h, ht2, asAddr, loadVar_not hB]
theorem results_not3 {fn : Func} {t u v : Tmp} (h : fn.results = #[.cell t 33, .tmp u, .tmp v]) {tmps : Array Value} {w : World} {g : Nat} {V : NV} (ht : tmps.getD t undef = .pointer (some ⟨g, 0, none⟩)) (hB : NBox w g V) :
    (results fn tmps).run Tryz.prog w = .ok (.tuple #[V.val, tmps.getD u undef, tmps.getD v undef]) w := by
  have ht2 : tmps[t]?.getD undef = .pointer (some ⟨g, 0, none⟩) := by simpa using ht
  simp [results, h, ht2, asAddr, loadVar_not hB]
end Go.Proofs.YtbihbhdaenhdoaaGreat
