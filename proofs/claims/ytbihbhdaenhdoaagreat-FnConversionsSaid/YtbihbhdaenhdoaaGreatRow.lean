/- Rows of numbers that a call made (slices of integers, or of structs of integers), read, marked and compared. Plain lemmas. -/
import Derived.Test.YtbihbhdaenhdoaaGreatToI
import Derived.Laws.OwnMore
namespace Go.Proofs.YtbihbhdaenhdoaaGreat
set_option linter.unusedVariables false
set_option linter.unusedSimpArgs false
open Go.RowKit Go.Joins

/-- The numbers k, k + 1, .. that a mark leaves. -/
def marks (k : Int) (n : Nat) : List Int := (List.range n).map (fun i : Nat => k + (i : Int))
theorem marks_len (k : Int) (n : Nat) : (marks k n).length = n := by simp [marks]
theorem marks_get {k : Int} {n i : Nat} (h : i < n) : (marks k n)[i]?.getD 0 = k + i := by simp [marks, h]
theorem marks_bd {k : Int} {n : Nat} (hk : 0 ≤ k ∧ k ≤ 1000000000000000) (hn : n ≤ 1000000000) : ∀ y ∈ marks k n, -9223372036854775808 ≤ y ∧ y ≤ 9223372036854775807 := by
  intro y hy
  simp only [marks, List.mem_map, List.mem_range] at hy
  obtain ⟨i, hi, rfl⟩ := hy
  omega
/-- The first j of the numbers xs are marked. -/
def mk (xs : List Int) (k : Int) (j : Nat) : List Int := marks k j ++ xs.drop j
theorem mk_zero (xs : List Int) (k : Int) : mk xs k 0 = xs := by simp [mk, marks]
theorem mk_all (xs : List Int) (k : Int) : mk xs k xs.length = marks k xs.length := by simp [mk]
theorem mk_len {xs : List Int} {k : Int} {j : Nat} (h : j ≤ xs.length) : (mk xs k j).length = xs.length := by simp [mk, marks]; omega
theorem mk_set {xs : List Int} {k : Int} {j : Nat} (h : j < xs.length) : (mk xs k j).set j (k + j) = mk xs k (j + 1) := by
  have e : marks k (j + 1) = marks k j ++ [k + (j : Int)] := by simp [marks, List.range_succ]
  unfold mk
  rw [e, List.set_append_right _ _ (by simp [marks]), marks_len, Nat.sub_self, List.drop_eq_getElem_cons h, List.set_cons_zero, List.append_assoc]
  rfl

/-- The slice (A, n, c), of elements of m numbers of the type e each, lies in a row between the blocks lo and hi, and holds the numbers xs. -/
structure Row (w : World) (lo hi : Nat) (e : TypeId) (m : Nat) (A : Option Addr) (n c : Nat) (xs : List Int) : Prop where
  own : w.ownsRow lo e m (.slice A n c) n (xs.map (Value.int .i64))
  top : ∀ a, A = some a → a.block < hi
section
variable {w w' : World} {lo hi : Nat} {e : TypeId} {m : Nat} {A : Option Addr} {n c : Nat} {xs : List Int}
theorem Row.len (h : Row w lo hi e m A n c xs) : xs.length = n * m := by simpa using h.own.1
theorem Row.kept (h : Row w lo hi e m A n c xs) (k : ∀ b, lo ≤ b → b < hi → w'.heap[b]? = w.heap[b]?) : Row w' lo hi e m A n c xs := by
  refine ⟨⟨h.own.1, ?_⟩, h.top⟩
  rcases h.own.2 with h0 | ⟨g, cap, cur, ev, hb, hg, rest⟩
  · exact .inl h0
  · refine .inr ⟨g, cap, cur, ev, hb, ?_, rest⟩
    simp only [Value.slice.injEq] at ev
    rw [k g hb (h.top _ ev.1)]
    exact hg
theorem Row.ext (h : Row w lo hi e m A n c xs) (k : Ext w w') : Row w' lo hi e m A n c xs := by
  refine ⟨⟨h.own.1, ?_⟩, h.top⟩
  rcases h.own.2 with h0 | ⟨g, cap, cur, ev, hb, hg, rest⟩
  · exact .inl h0
  · refine .inr ⟨g, cap, cur, ev, hb, ?_, rest⟩
    rw [Below.block k g (Array.getElem?_eq_some_iff.1 hg).1]
    exact hg
/-- Another row is written. -/
theorem Row.apart (h : Row w lo hi e m A n c xs) {row : Option Nat} (k : w.grownBy w' row) (hr : ∀ g, row = some g → g < lo ∨ hi ≤ g) : Row w' lo hi e m A n c xs := by
  refine ⟨⟨h.own.1, ?_⟩, h.top⟩
  rcases h.own.2 with h0 | ⟨g, cap, cur, ev, hb, hg, rest⟩
  · exact .inl h0
  · refine .inr ⟨g, cap, cur, ev, hb, ?_, rest⟩
    simp only [Value.slice.injEq] at ev
    have ht := h.top _ ev.1
    rw [k.block g (Array.getElem?_eq_some_iff.1 hg).1 (fun e' => by have := hr _ e'.symm; simp at ht; omega)]
    exact hg
theorem Row.of_own {A : Option Addr} {n c : Nat} {xs : List Int} (h : Own w w' (.slice A n c) xs) (hl : xs.length = n) : Row w' w.heap.size w'.heap.size 2 1 A n c xs := by
  subst hl
  exact ⟨h.own, fun a ha => (World.ownsRow.lt h.own a.block (by rw [ha]; rfl)).2⟩
theorem Row.nil (w : World) (lo hi : Nat) (e : TypeId) (m : Nat) : Row w lo hi e m none 0 0 [] := ⟨⟨by simp, .inl ⟨rfl, rfl⟩⟩, fun a ha => by cases ha⟩
theorem Row.row_bd (h : Row w lo hi e m A n c xs) : ∀ g, A.map (·.block) = some g → lo ≤ g ∧ g < hi := by
  intro g hg
  cases A with
  | none => cases hg
  | some a =>
    simp at hg
    subst hg
    exact ⟨(World.ownsRow.lt h.own a.block rfl).1, h.top a rfl⟩
/-- What is read. -/
theorem Row.ints (h : Row w lo hi e m A n c xs) (hs : n * m ≤ 9223372036854775807) (hb : ∀ y ∈ xs, -9223372036854775808 ≤ y ∧ y ≤ 9223372036854775807) : Ints w A (n * m) xs := by
  refine ⟨h.len, hs, hb, fun h0 => ?_⟩
  have hn : 0 < n := Nat.pos_of_mul_pos_right h0
  obtain ⟨g, cap, hv⟩ := ownsRow_form h.own hn
  injection hv with hA _ hc
  subst hA hc
  have key : ∀ i, i < n * m → w.cell? ⟨g, 0 + i, none⟩ = some (.int .i64 (xs[i]?.getD 0)) := fun i hi => by
    rw [Nat.zero_add, World.ownsRow.cellAt h.own i hi, List.getElem?_map, List.getElem?_eq_getElem (show i < xs.length by rw [h.len]; exact hi)]
    rfl
  exact ⟨g, 0, rfl, cell_lt (key 0 h0), key⟩
end
/-- What a call hands back: a row of elements of m numbers, and a code. -/
def RetRow (w : World) (e : TypeId) (m n : Nat) (ys : List Int) (r : Int) (en : Ending) (w' : World) : Prop :=
  ∃ A c, en = .returned (.tuple #[.slice A n c, .int .i64 r]) ∧ Row w' w.heap.size w'.heap.size e m A n c ys ∧ Ext w w'
theorem RetRow.of_nil {w w' : World} {e : TypeId} {m : Nat} {r : Int} {en : Ending} (h : en = .returned (.tuple #[.slice none 0 0, .int .i64 r])) (hx : Ext w w') : RetRow w e m 0 [] r en w' :=
  ⟨none, 0, h, Row.nil _ _ _ _ _, hx⟩
theorem RetRow.of_own {w w' : World} {n : Nat} {ys : List Int} {r : Int} {A : Option Addr} {c : Nat} {en : Ending} (h : en = .returned (.tuple #[.slice A n c, .int .i64 r])) (hl : ys.length = n) (ho : Own w w' (.slice A n c) ys) : RetRow w 2 1 n ys r en w' :=
  ⟨A, c, h, Row.of_own ho hl, ho.ext⟩

theorem only_setCell {a w : World} {g : Nat} (h : a.grownBy w (some g)) {p : Addr} (hp : p.block = g) (u : Value) : a.grownBy (w.setCell p u) (some g) :=
  ⟨h.os, h.tape, h.output, by simpa [World.setCell] using h.size, fun i hi hne => (Below.heap_setCell w p u i (by rintro rfl; exact hne (by rw [hp]))).trans (h.block i hi hne)⟩
theorem Ext.grownRow {a w w' : World} {lo hi : Nat} {e : TypeId} {m : Nat} {A : Option Addr} {n c : Nat} {xs : List Int} (h : Ext a w) (hr : Row w lo hi e m A n c xs) (hlo : a.heap.size ≤ lo) (hg : w.grownBy w' (A.map (·.block))) : Ext a w' :=
  h.grown hg (fun k hk => Nat.le_trans hlo (hr.row_bd k hk).1)
/-- Cells of a block outside the marked row. -/
theorem Row.cells_far {w w' : World} {lo hi : Nat} {e : TypeId} {m : Nat} {A : Option Addr} {n c : Nat} {xs : List Int} (hr : Row w lo hi e m A n c xs) (hg : w.grownBy w' (A.map (·.block))) {b : Nat} (hb : b < w.heap.size) (hlo : b < lo) : ∀ o, w'.cell? ⟨b, o, none⟩ = w.cell? ⟨b, o, none⟩ := fun o =>
  World.cell?_of_block (hg.block b hb (fun e' => by have := (hr.row_bd b e'.symm).1; omega))

/-- A row of which the first j numbers are marked. -/
def Mkd (w wr : World) (lo hi : Nat) (e : TypeId) (m g n c : Nat) (xs : List Int) (k : Int) (j : Nat) : Prop := Row wr lo hi e m (some ⟨g, 0, none⟩) n c (mk xs k j) ∧ w.grownBy wr (some g)
section
variable {w wr : World} {lo hi : Nat} {e : TypeId} {m g n c : Nat} {xs : List Int} {k : Int} {j : Nat}
theorem Mkd.zero (h : Row w lo hi e m (some ⟨g, 0, none⟩) n c xs) (k : Int) : Mkd w w lo hi e m g n c xs k 0 := ⟨by rw [mk_zero]; exact h, World.grownBy.refl w _⟩
theorem Mkd.store (h : Mkd w wr lo hi e m g n c xs k j) (hj : j < xs.length) {p : Nat} {v : Int} (hp : p = j) (hv : v = k + j) : Mkd w (wr.setCell ⟨g, p, none⟩ (.int .i64 v)) lo hi e m g n c xs k (j + 1) := by
  subst hp hv
  refine ⟨⟨?_, h.1.top⟩, only_setCell h.2 rfl _⟩
  have := (World.ownsRow.stored h.1.own p (.int .i64 (k + p))).1
  rw [← mk_set hj]
  rw [List.map_set]
  exact this
theorem Mkd.cell (h : Mkd w wr lo hi e m g n c xs k j) (hj : j ≤ xs.length) (hl : xs.length = n * m) : ∀ p, p < n * m → (∃ u, wr.cell? ⟨g, p, none⟩ = some u) := fun p hp => by
  rw [World.ownsRow.cellAt h.1.own p hp]
  exact ⟨_, List.getElem?_eq_getElem (by rw [List.length_map, mk_len hj]; omega)⟩
theorem Mkd.frozen (h : Mkd w wr lo hi e m g n c xs k j) (p : Nat) : wr.frozen? ⟨g, p, none⟩ = false := World.ownsRow.frozenAt h.1.own p
theorem Mkd.all (h : Mkd w wr lo hi e m g n c xs k j) (hj : j = xs.length) : Row wr lo hi e m (some ⟨g, 0, none⟩) n c (marks k xs.length) := by
  subst hj
  rw [← mk_all xs]
  exact h.1
end
/-- What a mark does. -/
def Markd (w : World) (lo hi : Nat) (e : TypeId) (m : Nat) (A : Option Addr) (n c : Nat) (k : Int) (en : Ending) (w' : World) : Prop :=
  ∃ K : Int, en = .returned (.int .i64 K) ∧ K = k + ((n * m : Nat) : Int) ∧ w.grownBy w' (A.map (·.block)) ∧ Row w' lo hi e m A n c (marks k (n * m))
theorem Row.form {w : World} {lo hi : Nat} {e : TypeId} {m : Nat} {A : Option Addr} {n c : Nat} {xs : List Int} (h : Row w lo hi e m A n c xs) (hn : 0 < n) : ∃ g, A = some ⟨g, 0, none⟩ := by
  obtain ⟨g, cap, hv⟩ := ownsRow_form h.own hn
  injection hv with hA
  exact ⟨g, hA⟩
theorem Row.empty_marks {w : World} {lo hi : Nat} {e : TypeId} {m : Nat} {A : Option Addr} {c : Nat} {xs : List Int} (h : Row w lo hi e m A 0 c xs) (k : Int) : Row w lo hi e m A 0 c (marks k (0 * m)) := by
  have hx : xs = [] := List.eq_nil_of_length_eq_zero (by simpa using h.len)
  subst hx
  simpa [marks] using h
end Go.Proofs.YtbihbhdaenhdoaaGreat
