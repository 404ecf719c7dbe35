/- Rows of rows of numbers ([][]int64): words, what is read, marks; the laws' eq, mark, held. No condition but the stated bounds. -/
import Derived.Test.YtbihbhdaenhdoaaGreatRowG
import Derived.Test.YtbihbhdaenhdoaaGreatRow
import Derived.Test.YtbihbhdaenhdoaaGreatApi
import Derived.Test.YtbihbhdaenhdoaaGreatToI
import Derived.Test.YtbihbhdaenhdoaaGreatThw
import Derived.Deep.Slices
import Derived.Deep.Fields
import Derived.ChangeSame
import Derived.Deep.RegionHeld3
namespace Go.Proofs.YtbihbhdaenhdoaaGreat
set_option linter.unusedVariables false
set_option linter.unusedSimpArgs false
open Go.ChangeShapes Go.WideShapes Go.ChangeAt Go.RowKit Go.Joins Go.Deep

/-- A function that is v at j. -/
def upd {α : Type} (f : Nat → α) (j : Nat) (v : α) : Nat → α := fun i => if i = j then v else f i
theorem upd_self {α : Type} (f : Nat → α) (j : Nat) (v : α) : upd f j v j = v := if_pos rfl
theorem upd_ne {α : Type} (f : Nat → α) {i j : Nat} (v : α) (h : i ≠ j) : upd f j v i = f i := if_neg h
theorem Row.held {w w' : World} {lo lo' hi hi' : Nat} {e : TypeId} {m : Nat} {A : Option Addr} {n c : Nat} {xs : List Int} (h : Row w lo hi e m A n c xs) (k : Kept lo' hi' w w') (hr : hi ≤ lo' ∨ hi' ≤ lo) : Row w' lo hi e m A n c xs := by
  refine ⟨⟨h.own.1, ?_⟩, h.top⟩
  rcases h.own.2 with h0 | ⟨g, cap, cur, ev, hb, hg, rest⟩
  · exact .inl h0
  · refine .inr ⟨g, cap, cur, ev, hb, ?_, rest⟩
    simp only [Value.slice.injEq] at ev
    have ht := h.top _ ev.1
    simp at ht
    rw [k.block g (Array.getElem?_eq_some_iff.1 hg).1 (by omega)]
    exact hg
theorem Row.beside {w w' : World} {lo hi : Nat} {e : TypeId} {m : Nat} {A : Option Addr} {n c : Nat} {xs : List Int} (h : Row w lo hi e m A n c xs) {row : Option Nat} (k : w.grownBy w' row) (hr : ∀ g, row = some g → A.map (·.block) ≠ some g) : Row w' lo hi e m A n c xs := by
  refine ⟨⟨h.own.1, ?_⟩, h.top⟩
  rcases h.own.2 with h0 | ⟨g, cap, cur, ev, hb, hg, rest⟩
  · exact .inl h0
  · refine .inr ⟨g, cap, cur, ev, hb, ?_, rest⟩
    simp only [Value.slice.injEq] at ev
    rw [k.block g (Array.getElem?_eq_some_iff.1 hg).1 (fun e' => by have := hr _ e'.symm; rw [ev.1] at this; exact this rfl)]
    exact hg
theorem Row.wide {w : World} {lo lo' hi hi' : Nat} {e : TypeId} {m : Nat} {A : Option Addr} {n c : Nat} {xs : List Int} (h : Row w lo hi e m A n c xs) (h1 : lo' ≤ lo) (h2 : hi ≤ hi') : Row w lo' hi' e m A n c xs :=
  ⟨ownsRow_le h.own h1, fun a ha => Nat.lt_of_lt_of_le (h.top a ha) h2⟩
theorem Row.otherCell {w : World} {lo hi : Nat} {e : TypeId} {m : Nat} {A : Option Addr} {n c : Nat} {xs : List Int} (h : Row w lo hi e m A n c xs) {p : Addr} (hp : A.map (·.block) ≠ some p.block) (u : Value) : Row (w.setCell p u) lo hi e m A n c xs :=
  h.beside (row := some p.block) ⟨rfl, rfl, rfl, by simp [World.setCell], fun i hi hne => Below.heap_setCell w p u i (by rintro rfl; exact hne rfl)⟩ (fun g hg => by cases hg; exact hp)
/-- The list with number i. -/
def ll (L : List (List Int)) (i : Nat) : List Int := L[i]?.getD []
/-- Rows of numbers that are read. -/
structure Lists (w : World) (A : Option Addr) (n : Nat) (L : List (List Int)) : Prop where
  len : L.length = n
  small : n ≤ 9223372036854775807
  at_ : 0 < n → ∃ b off, A = some ⟨b, off, none⟩ ∧ b < w.heap.size ∧ ∀ i, i < n → ∃ (B : Option Addr) (m c : Nat), w.cell? ⟨b, off + i, none⟩ = some (.slice B m c) ∧ Ints w B m (ll L i)
theorem Lists.ext {w w' : World} {A : Option Addr} {n : Nat} {L : List (List Int)} (h : Lists w A n L) (k : Ext w w') : Lists w' A n L :=
  ⟨h.len, h.small, fun hn => by
    obtain ⟨b, off, e, hb, hc⟩ := h.at_ hn
    refine ⟨b, off, e, Nat.lt_of_lt_of_le hb k.size, fun i hi => ?_⟩
    obtain ⟨B, m, c, h1, h3⟩ := hc i hi
    exact ⟨B, m, c, k.cell hb h1, h3.ext k⟩⟩
/-- Rows between the blocks lo and hi: the row of rows, and each of its rows, all in blocks of their own. -/
structure LRowF (w : World) (lo hi : Nat) (A : Option Addr) (n c : Nat) (H : Nat → Option Addr × Nat) (X : Nat → List Int) : Prop where
  row : ∃ cs, RowG w lo hi 24 1 A n c cs ∧ ∀ i, i < n → cs[i]? = some (.slice (H i).1 (X i).length (H i).2)
  rows : ∀ i, i < n → Row w lo hi 2 1 (H i).1 (X i).length (H i).2 (X i)
  apart : ∀ i j, i < n → j < n → i ≠ j → ∀ g, (H i).1.map (·.block) = some g → (H j).1.map (·.block) ≠ some g
  alone : ∀ i, i < n → ∀ g, (H i).1.map (·.block) = some g → A.map (·.block) ≠ some g
section
variable {w w' : World} {lo lo' hi hi' : Nat} {A : Option Addr} {n c : Nat} {H : Nat → Option Addr × Nat} {X Y : Nat → List Int}
theorem LRowF.congr (h : LRowF w lo hi A n c H X) (hx : ∀ i, i < n → X i = Y i) : LRowF w lo hi A n c H Y := by
  obtain ⟨cs, hr, hc⟩ := h.row
  refine ⟨⟨cs, hr, fun i hi => ?_⟩, fun i hi => ?_, h.apart, h.alone⟩
  · rw [← hx i hi]; exact hc i hi
  · rw [← hx i hi]; exact h.rows i hi
theorem LRowF.ext (h : LRowF w lo hi A n c H X) (k : Ext w w') : LRowF w' lo hi A n c H X := by
  obtain ⟨cs, hr, hc⟩ := h.row
  exact ⟨⟨cs, hr.ext k, hc⟩, fun i hi => (h.rows i hi).ext k, h.apart, h.alone⟩
theorem LRowF.held (h : LRowF w lo hi A n c H X) (k : Kept lo' hi' w w') (hr : hi ≤ lo' ∨ hi' ≤ lo) : LRowF w' lo hi A n c H X := by
  obtain ⟨cs, hr', hc⟩ := h.row
  exact ⟨⟨cs, hr'.held k hr, hc⟩, fun i hi => (h.rows i hi).held k hr, h.apart, h.alone⟩
theorem LRowF.wide (h : LRowF w lo hi A n c H X) (h1 : lo' ≤ lo) (h2 : hi ≤ hi') : LRowF w lo' hi' A n c H X := by
  obtain ⟨cs, hr', hc⟩ := h.row
  exact ⟨⟨cs, hr'.wide h1 h2, hc⟩, fun i hi => (h.rows i hi).wide h1 h2, h.apart, h.alone⟩
theorem LRowF.far (h : LRowF w lo hi A n c H X) {p : Addr} (hp : p.block < lo ∨ hi ≤ p.block) (v : Value) : LRowF (w.setCell p v) lo hi A n c H X := by
  obtain ⟨cs, hr', hc⟩ := h.row
  refine ⟨⟨cs, hr'.keep hp v, hc⟩, fun i hi => (h.rows i hi).otherCell (fun e => ?_) v, h.apart, h.alone⟩
  have := (h.rows i hi).row_bd _ e
  omega
theorem LRowF.nil (w : World) (lo hi : Nat) (H : Nat → Option Addr × Nat) (X : Nat → List Int) : LRowF w lo hi none 0 0 H X :=
  ⟨⟨[], RowG.nil _ _ _ _ _, fun i h => absurd h (by omega)⟩, fun i h => absurd h (by omega), fun i j h => absurd h (by omega), fun i h => absurd h (by omega)⟩
/-- One of the rows is written. -/
theorem LRowF.rewrite (h : LRowF w lo hi A n c H X) {j : Nat} (hj : j < n) {Z : List Int} (hl : Z.length = (X j).length) (k : w.grownBy w' ((H j).1.map (·.block))) (R : Row w' lo hi 2 1 (H j).1 (X j).length (H j).2 Z) : LRowF w' lo hi A n c H (upd X j Z) := by
  obtain ⟨cs, hr, hc⟩ := h.row
  have hX : ∀ i, (upd X j Z i).length = (X i).length := by
    intro i
    by_cases e : i = j
    · subst e; rw [upd_self]; exact hl
    · rw [upd_ne _ _ e]
  refine ⟨⟨cs, hr.beside k (fun g hg => h.alone j hj g hg), fun i hi => ?_⟩, fun i hi => ?_, h.apart, h.alone⟩
  · rw [hX]; exact hc i hi
  · rw [hX]
    by_cases e : i = j
    · subst e; rw [upd_self]; exact R
    · rw [upd_ne _ _ e]; exact (h.rows i hi).beside k (fun g hg => h.apart j i hj hi (fun e' => e e'.symm) g hg)
theorem LRowF.form (h : LRowF w lo hi A n c H X) (hn : 0 < n) : ∃ g, A = some ⟨g, 0, none⟩ ∧ g < w.heap.size ∧ lo ≤ g ∧ g < hi := by
  obtain ⟨cs, hr, _⟩ := h.row
  obtain ⟨g, rfl, h1⟩ := hr.form hn
  have := hr.row_bd g rfl
  exact ⟨g, rfl, h1, this⟩
theorem LRowF.cells {g : Nat} (h : LRowF w lo hi (some ⟨g, 0, none⟩) n c H X) {j : Nat} (hj : j < n) :
    w.cell? ⟨g, j, none⟩ = some (.slice (H j).1 (X j).length (H j).2) ∧ w.frozen? ⟨g, j, none⟩ = false := by
  obtain ⟨cs, hr, hc⟩ := h.row
  have hl := hr.len
  obtain ⟨d0, f0⟩ := hr.cellAt (p := j) (by omega)
  exact ⟨d0.trans (hc j hj), f0⟩
theorem LRowF.lists (h : LRowF w lo hi A n c H X) (hn : n ≤ 1000000000) {L : List (List Int)} (hl : L.length = n) (hx : ∀ i, i < n → X i = ll L i)
    (hbx : ∀ i, i < n → (X i).length ≤ 1000000000 ∧ ∀ y ∈ X i, -9223372036854775808 ≤ y ∧ y ≤ 9223372036854775807) : Lists w A n L := by
  refine ⟨hl, by omega, fun h0 => ?_⟩
  obtain ⟨g, rfl, hg, _⟩ := h.form h0
  refine ⟨g, 0, rfl, hg, fun i hi => ?_⟩
  obtain ⟨c0, _⟩ := h.cells hi
  refine ⟨_, _, _, by rw [Nat.zero_add]; exact c0, ?_⟩
  have hb := hbx i hi
  have := (h.rows i hi).ints (by omega) hb.2
  rw [Nat.mul_one] at this
  rw [← hx i hi]
  exact this
end
/-- Numbers of an int64's width, lists that are not too long. -/
def bdL (L : List (List Int)) : Prop := ∀ i, i < L.length → (ll L i).length ≤ 1048576 ∧ (∀ y ∈ ll L i, -9223372036854775808 ≤ y ∧ y ≤ 9223372036854775807)
/-- Rows in blocks of a call's own. -/
structure LRow (w : World) (lo hi : Nat) (A : Option Addr) (n c : Nat) (L : List (List Int)) : Prop where
  len : L.length = n
  rows : ∃ H, LRowF w lo hi A n c H (ll L)
section
variable {w w' : World} {lo lo' hi hi' : Nat} {A : Option Addr} {n c : Nat} {L : List (List Int)}
theorem LRow.ext (h : LRow w lo hi A n c L) (k : Ext w w') : LRow w' lo hi A n c L := ⟨h.len, h.rows.imp fun _ hh => hh.ext k⟩
theorem LRow.held (h : LRow w lo hi A n c L) (k : Kept lo' hi' w w') (hr : hi ≤ lo' ∨ hi' ≤ lo) : LRow w' lo hi A n c L := ⟨h.len, h.rows.imp fun _ hh => hh.held k hr⟩
theorem LRow.wide (h : LRow w lo hi A n c L) (h1 : lo' ≤ lo) (h2 : hi ≤ hi') : LRow w lo' hi' A n c L := ⟨h.len, h.rows.imp fun _ hh => hh.wide h1 h2⟩
theorem LRow.far (h : LRow w lo hi A n c L) {p : Addr} (hp : p.block < lo ∨ hi ≤ p.block) (v : Value) : LRow (w.setCell p v) lo hi A n c L := ⟨h.len, h.rows.imp fun _ hh => hh.far hp v⟩
theorem LRow.nil (w : World) (lo hi : Nat) : LRow w lo hi none 0 0 [] := ⟨rfl, fun _ => (none, 0), LRowF.nil _ _ _ _ _⟩
theorem LRow.lists (h : LRow w lo hi A n c L) (hn : n ≤ 1000000000) (hb : bdL L) : Lists w A n L := by
  obtain ⟨H, hh⟩ := h.rows
  exact hh.lists hn h.len (fun _ _ => rfl) (fun i hi => ⟨by have := (hb i (by rw [h.len]; exact hi)).1; omega, (hb i (by rw [h.len]; exact hi)).2⟩)
end
/-- The sum of the marks that the first j lists take. -/
def sml (f : Nat → Nat) : Nat → Int
  | 0 => 0
  | j + 1 => sml f j + f j
theorem sml_bd (f : Nat → Nat) {n : Nat} (hf : ∀ i, i < n → f i ≤ 1048576) : ∀ j, j ≤ n → 0 ≤ sml f j ∧ sml f j ≤ j * 1048576
  | 0, _ => by simp [sml]
  | j + 1, h => by
    have h1 := sml_bd f hf j (by omega)
    have h2 := hf j (by omega)
    unfold sml
    omega
/-- The lists that a mark leaves. -/
def mkL (k : Int) (n : Nat) (f : Nat → Nat) : List (List Int) := (List.range n).map (fun i => marks (k + sml f i) (f i))
theorem mkL_len (k : Int) (n : Nat) (f : Nat → Nat) : (mkL k n f).length = n := by simp [mkL]
theorem mkL_ll {k : Int} {n i : Nat} {f : Nat → Nat} (h : i < n) : ll (mkL k n f) i = marks (k + sml f i) (f i) := by simp [ll, mkL, h]
theorem mkL_bd {k : Int} {n : Nat} {f : Nat → Nat} (hk : 0 ≤ k ∧ k ≤ 2000000000000) (hn : n ≤ 1048576) (hf : ∀ i, i < n → f i ≤ 1048576) : bdL (mkL k n f) := fun i hi => by
  rw [mkL_len] at hi
  have h1 := sml_bd f hf i (by omega)
  have h2 := hf i hi
  have h3 : (i : Int) ≤ 1048576 := by omega
  rw [mkL_ll hi, marks_len]
  exact ⟨h2, marks_bd (by omega) (by omega)⟩
theorem sml_lt {f : Nat → Nat} {n : Nat} (hf : ∀ i, i < n → f i ≤ 1048576) (hn : n ≤ 1048576) {j : Nat} (hj : j ≤ n) : 0 ≤ sml f j ∧ sml f j ≤ 1100000000000 := by
  have h1 := sml_bd f hf j hj
  have h3 : (j : Int) ≤ 1048576 := by omega
  omega
end Go.Proofs.YtbihbhdaenhdoaaGreat
