/- Slices of strings: words, and contracts of the laws' copies, sizes, comparisons and marks. No condition but the stated bounds. -/
import Derived.Test.YtinkaglngblddaaDoorRowG
import Derived.Deep.OwnRows
import Derived.SliceStrings
import Derived.Deep.RegionHeld3
namespace Go.Proofs.YtinkaglngblddaaDoor
set_option linter.unusedVariables false
set_option linter.unusedSimpArgs false
open Go.ChangeShapes Go.WideShapes Go.ChangeAt Go.RowKit Go.Joins

/-- The string i. -/
def gs (ss : List ByteArray) (i : Nat) : ByteArray := ss[i]?.getD ByteArray.empty
/-- The slice (A, n) of strings holds ss. -/
structure Strs (w : World) (A : Option Addr) (n : Nat) (ss : List ByteArray) : Prop where
  len : ss.length = n
  small : n ≤ 9223372036854775807
  szs : ∀ s ∈ ss, s.size ≤ 9223372036854775807
  at_ : 0 < n → ∃ b off, A = some ⟨b, off, none⟩ ∧ b < w.heap.size ∧ ∀ i, i < n → w.cell? ⟨b, off + i, none⟩ = some (.string (gs ss i))
theorem Strs.ext {w w' : World} {A : Option Addr} {n : Nat} {ss : List ByteArray} (h : Strs w A n ss) (k : Ext w w') : Strs w' A n ss :=
  ⟨h.len, h.small, h.szs, fun hn => by
    obtain ⟨b, off, e, hb, hc⟩ := h.at_ hn
    exact ⟨b, off, e, Nat.lt_of_lt_of_le hb k.size, fun i hi => k.cell hb (hc i hi)⟩⟩
theorem gs_mem {ss : List ByteArray} {i : Nat} (h : i < ss.length) : gs ss i ∈ ss := by
  unfold gs
  rw [List.getElem?_eq_getElem h]
  exact List.getElem_mem h
theorem Strs.sz {w : World} {A : Option Addr} {n : Nat} {ss : List ByteArray} (h : Strs w A n ss) (i : Nat) : (gs ss i).size ≤ 9223372036854775807 := by
  rcases Nat.lt_or_ge i ss.length with hi | hi
  · exact h.szs _ (gs_mem hi)
  · unfold gs
    rw [List.getElem?_eq_none hi]
    show ByteArray.empty.size ≤ _
    decide
theorem gs_ext {ss tt : List ByteArray} (hl : ss.length = tt.length) (h : ∀ i, i < ss.length → gs ss i = gs tt i) : ss = tt := by
  apply List.ext_getElem hl
  intro i h1 h2
  have := h i h1
  unfold gs at this
  rw [List.getElem?_eq_getElem h1, List.getElem?_eq_getElem h2] at this
  exact this
/-- An argument's reading. -/
theorem argStrs {H : Type} {enc : TypeId × Value → H} {P : Program} {W : World} {t e : TypeId} {A : Option Addr} {n c : Nat} {d : DataW H} {p : List MemPlace} (ht : P.underlying t = some (.slice e)) (he : P.underlying e = some .string) (hc : P.cellsOf e = 1)
    (h : DataW.Trod enc P W 0 (fun _ => true) true t (.slice A n c) d p) : ∃ ss, Strs W A n ss := by
  obtain ⟨fuel, hf⟩ := h
  rcases open_strings ht he hc hf with ⟨hcs, hx⟩ | ⟨a, len, cap, zs, hcs, _, hl, hm, hz, hx, hcell, hwz⟩
  · obtain ⟨rfl, rfl, rfl⟩ : A = none ∧ n = 0 ∧ c = 0 := by simpa [Value.cells] using hcs
    exact ⟨[], rfl, by omega, by simp, fun h => absurd h (by omega)⟩
  · obtain ⟨rfl, rfl, rfl⟩ : A = some a ∧ n = len ∧ c = cap := by simpa [Value.cells] using hcs
    simp only [if_true] at hz
    unfold maxLen at hm hwz
    refine ⟨zs.take n, by simp; omega, by omega, fun x hx => hwz x (List.mem_of_mem_take hx), fun hn => ?_⟩
    obtain ⟨b, off, spot⟩ := a
    have hspot : spot = none := by simpa [Addr.add] using World.cell?_spot (hcell 0 (by omega))
    subst hspot
    have hcc : ∀ j, j < zs.length → W.cell? ⟨b, off + j, none⟩ = some (.string (zs.getD j ByteArray.empty)) := fun j hj => by rw [← Go.WideShapes.add_plain]; exact hcell j hj
    refine ⟨b, off, rfl, cell_lt (hcc 0 (by omega)), fun i hi => ?_⟩
    rw [hcc i (by omega)]
    unfold gs
    simp [hi]
/-- A row of strings is read. -/
theorem RowG.strs {w : World} {lo hi : Nat} {e : TypeId} {A : Option Addr} {n c : Nat} {ss : List ByteArray} (h : RowG w lo hi e 1 A n c (ss.map Value.string)) (hs : n ≤ 9223372036854775807) (hz : ∀ s ∈ ss, s.size ≤ 9223372036854775807) : Strs w A n ss := by
  have hl := h.len
  rw [List.length_map, Nat.mul_one] at hl
  refine ⟨hl, hs, hz, fun h0 => ?_⟩
  obtain ⟨g, rfl, hg⟩ := h.form h0
  refine ⟨g, 0, rfl, hg, fun i hi => ?_⟩
  rw [Nat.zero_add, (h.cellAt (p := i) (by omega)).1, List.getElem?_map]
  unfold gs
  rw [List.getElem?_eq_getElem (by omega)]
  rfl
theorem infoStr : (Tryd.prog.info? 9).map (fun i => (i.zero, i.size, i.bytes)) = some (some (.string ⟨#[]⟩), 1, 16) := by kernel_rfl
theorem elStr : ElG Tryd.prog 9 1 16 := elG infoStr rfl
/-- What hands back a row of strings. -/
def RetS (w : World) (n : Nat) (ss : List ByteArray) (en : Ending) (w' : World) : Prop := ∃ A c, en = .returned (.slice A n c) ∧ RowG w' w.heap.size w'.heap.size 9 1 A n c (ss.map Value.string) ∧ Ext w w'
end Go.Proofs.YtinkaglngblddaaDoor
