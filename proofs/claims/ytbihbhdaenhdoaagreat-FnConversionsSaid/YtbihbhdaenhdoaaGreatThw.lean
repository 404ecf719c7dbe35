/- Worlds in which all blocks but those of a range lie as they lay, and rows there. Plain lemmas. -/
import Derived.Test.YtbihbhdaenhdoaaGreatRowG
import Derived.Deep.Slices
import Derived.Deep.Fields
import Derived.ChangeSame
namespace Go.Proofs.YtbihbhdaenhdoaaGreat
set_option linter.unusedVariables false
set_option linter.unusedSimpArgs false
open Go.ChangeShapes Go.WideShapes Go.ChangeAt Go.RowKit Go.Joins Go.Deep

/-- Behind w all blocks but those from lo to hi lie as they lay. -/
structure Kept (lo hi : Nat) (w w' : World) : Prop where
  os : w'.os = w.os
  tape : w'.tape = w.tape
  output : w'.output = w.output
  size : w.heap.size ≤ w'.heap.size
  block : ∀ i, i < w.heap.size → (i < lo ∨ hi ≤ i) → w'.heap[i]? = w.heap[i]?
theorem Kept.trans {lo hi : Nat} {a b c : World} (h : Kept lo hi a b) (k : Kept lo hi b c) : Kept lo hi a c :=
  ⟨k.os.trans h.os, k.tape.trans h.tape, k.output.trans h.output, Nat.le_trans h.size k.size, fun i hi' hr => (k.block i (Nat.lt_of_lt_of_le hi' h.size) hr).trans (h.block i hi' hr)⟩
theorem Kept.of_ext {lo hi : Nat} {a b : World} (h : Ext a b) : Kept lo hi a b := ⟨h.os, h.tape, h.output, h.size, fun i hi' _ => Below.block h i hi'⟩
theorem Kept.of_grown {lo hi : Nat} {a b : World} {row : Option Nat} (h : a.grownBy b row) (hr : ∀ g, row = some g → lo ≤ g ∧ g < hi) : Kept lo hi a b :=
  ⟨h.os, h.tape, h.output, h.size, fun i hi' hx => h.block i hi' (fun e => by have := hr i e.symm; omega)⟩
theorem Kept.ext {lo hi : Nat} {a w w' : World} (k : Kept lo hi w w') (h : Ext a w) (hlo : a.heap.size ≤ lo) : Ext a w' :=
  ⟨k.os.trans h.os, k.tape.trans h.tape, k.output.trans h.output, Nat.le_trans h.size k.size, fun i hi' => (k.block i (Nat.lt_of_lt_of_le hi' h.size) (.inl (by omega))).trans (Below.block h i hi')⟩
theorem Kept.cell {lo hi : Nat} {w w' : World} (k : Kept lo hi w w') {b o : Nat} {v : Value} (hb : b < w.heap.size) (hr : b < lo ∨ hi ≤ b) (hv : w.cell? ⟨b, o, none⟩ = some v) : w'.cell? ⟨b, o, none⟩ = some v :=
  (World.cell?_of_block (k.block b hb hr)).trans hv
section
variable {w w' : World} {lo lo' hi hi' : Nat} {e : TypeId} {m : Nat} {A : Option Addr} {n c : Nat} {cs : List Value}
theorem RowG.beside (h : RowG w lo hi e m A n c cs) {row : Option Nat} (k : w.grownBy w' row) (hr : ∀ g, row = some g → A.map (·.block) ≠ some g) : RowG w' lo hi e m A n c cs := by
  refine ⟨⟨h.own.1, ?_⟩, h.top⟩
  rcases h.own.2 with h0 | ⟨g, cap, cur, ev, hb, hg, rest⟩
  · exact .inl h0
  · refine .inr ⟨g, cap, cur, ev, hb, ?_, rest⟩
    simp only [Value.slice.injEq] at ev
    rw [k.block g (Array.getElem?_eq_some_iff.1 hg).1 (fun e' => by have := hr _ e'.symm; rw [ev.1] at this; exact this rfl)]
    exact hg
theorem RowG.held (h : RowG w lo hi e m A n c cs) (k : Kept lo' hi' w w') (hr : hi ≤ lo' ∨ hi' ≤ lo) : RowG w' lo hi e m A n c cs := by
  refine ⟨⟨h.own.1, ?_⟩, h.top⟩
  rcases h.own.2 with h0 | ⟨g, cap, cur, ev, hb, hg, rest⟩
  · exact .inl h0
  · refine .inr ⟨g, cap, cur, ev, hb, ?_, rest⟩
    simp only [Value.slice.injEq] at ev
    have ht := h.top _ ev.1
    simp at ht
    rw [k.block g (Array.getElem?_eq_some_iff.1 hg).1 (by omega)]
    exact hg
theorem RowG.wide (h : RowG w lo hi e m A n c cs) (h1 : lo' ≤ lo) (h2 : hi ≤ hi') : RowG w lo' hi' e m A n c cs :=
  ⟨(h.lower h1).own, fun a ha => Nat.lt_of_lt_of_le (h.top a ha) h2⟩
end
end Go.Proofs.YtbihbhdaenhdoaaGreat
