/- Rows of values that a call made, read, written and appended to, whatever the cells are. Plain lemmas. -/
import Derived.Test.YtbihbhdaenhdoaaGreatSli
import Derived.Laws.OwnMore
import Derived.Deep.AppendLies
import Derived.Maps.AppendAt
namespace Go.Proofs.YtbihbhdaenhdoaaGreat
set_option linter.unusedVariables false
set_option linter.unusedSimpArgs false
open Go.RowKit Go.Joins

/-- The slice A holds N cells, cs. -/
structure CellsAt (w : World) (A : Option Addr) (N : Nat) (cs : List Value) : Prop where
  len : cs.length = N
  small : N ≤ 9223372036854775807
  at_ : 0 < N → ∃ b off, A = some ⟨b, off, none⟩ ∧ b < w.heap.size ∧ ∀ i, i < N → w.cell? ⟨b, off + i, none⟩ = cs[i]?
theorem CellsAt.ext {w w' : World} {A : Option Addr} {N : Nat} {cs : List Value} (h : CellsAt w A N cs) (k : Ext w w') : CellsAt w' A N cs :=
  ⟨h.len, h.small, fun hn => by
    obtain ⟨b, off, e, hb, hc⟩ := h.at_ hn
    exact ⟨b, off, e, Nat.lt_of_lt_of_le hb k.size, fun i hi => (k.cells.1 b _ hb).trans (hc i hi)⟩⟩
theorem CellsAt.nil (w : World) (A : Option Addr) : CellsAt w A 0 [] := ⟨rfl, by omega, fun h => absurd h (by omega)⟩

/-- The slice (A, n, c), of elements of m cells of the type e each, lies in a row between the blocks lo and hi, and holds the cells cs. -/
structure RowG (w : World) (lo hi : Nat) (e : TypeId) (m : Nat) (A : Option Addr) (n c : Nat) (cs : List Value) : Prop where
  own : w.ownsRow lo e m (.slice A n c) n cs
  top : ∀ a, A = some a → a.block < hi
section
variable {w w' : World} {lo lo' hi : Nat} {e : TypeId} {m : Nat} {A : Option Addr} {n c : Nat} {cs : List Value}
theorem RowG.len (h : RowG w lo hi e m A n c cs) : cs.length = n * m := h.own.1
theorem RowG.ext (h : RowG w lo hi e m A n c cs) (k : Ext w w') : RowG w' lo hi e m A n c cs := by
  refine ⟨⟨h.own.1, ?_⟩, h.top⟩
  rcases h.own.2 with h0 | ⟨g, cap, cur, ev, hb, hg, rest⟩
  · exact .inl h0
  · refine .inr ⟨g, cap, cur, ev, hb, ?_, rest⟩
    rw [Below.block k g (Array.getElem?_eq_some_iff.1 hg).1]
    exact hg
theorem RowG.apart (h : RowG w lo hi e m A n c cs) {row : Option Nat} (k : w.grownBy w' row) (hr : ∀ g, row = some g → g < lo ∨ hi ≤ g) : RowG w' lo hi e m A n c cs := by
  refine ⟨⟨h.own.1, ?_⟩, h.top⟩
  rcases h.own.2 with h0 | ⟨g, cap, cur, ev, hb, hg, rest⟩
  · exact .inl h0
  · refine .inr ⟨g, cap, cur, ev, hb, ?_, rest⟩
    simp only [Value.slice.injEq] at ev
    have ht := h.top _ ev.1
    rw [k.block g (Array.getElem?_eq_some_iff.1 hg).1 (fun e' => by have := hr _ e'.symm; simp at ht; omega)]
    exact hg
theorem RowG.nil (w : World) (lo hi : Nat) (e : TypeId) (m : Nat) : RowG w lo hi e m none 0 0 [] := ⟨⟨by simp, .inl ⟨rfl, rfl⟩⟩, fun a ha => by cases ha⟩
theorem RowG.row_bd (h : RowG w lo hi e m A n c cs) : ∀ g, A.map (·.block) = some g → lo ≤ g ∧ g < hi := by
  intro g hg
  cases A with
  | none => cases hg
  | some a =>
    simp at hg
    subst hg
    exact ⟨(World.ownsRow.lt h.own a.block rfl).1, h.top a rfl⟩
theorem RowG.lower (h : RowG w lo hi e m A n c cs) (k : lo' ≤ lo) : RowG w lo' hi e m A n c cs := ⟨ownsRow_le h.own k, h.top⟩
theorem RowG.form (h : RowG w lo hi e m A n c cs) (hn : 0 < n) : ∃ g, A = some ⟨g, 0, none⟩ ∧ g < w.heap.size := by
  obtain ⟨g, cap, hv, _, hlt⟩ := World.ownsRow.form h.own hn
  injection hv with hA
  exact ⟨g, hA, hlt⟩
theorem RowG.cells (h : RowG w lo hi e m A n c cs) (hs : n * m ≤ 9223372036854775807) : CellsAt w A (n * m) cs := by
  refine ⟨h.len, hs, fun h0 => ?_⟩
  obtain ⟨g, rfl, hg⟩ := h.form (Nat.pos_of_mul_pos_right h0)
  refine ⟨g, 0, rfl, hg, fun i hi => ?_⟩
  rw [Nat.zero_add]
  exact World.ownsRow.cellAt h.own i hi
theorem RowG.cellAt {g : Nat} (h : RowG w lo hi e m (some ⟨g, 0, none⟩) n c cs) {p : Nat} (hp : p < n * m) : w.cell? ⟨g, p, none⟩ = cs[p]? ∧ w.frozen? ⟨g, p, none⟩ = false :=
  ⟨World.ownsRow.cellAt h.own p hp, World.ownsRow.frozenAt h.own p⟩
theorem RowG.store {g : Nat} (h : RowG w lo hi e m (some ⟨g, 0, none⟩) n c cs) (p : Nat) (v : Value) : RowG (w.setCell ⟨g, p, none⟩ v) lo hi e m (some ⟨g, 0, none⟩) n c (cs.set p v) :=
  ⟨(World.ownsRow.stored h.own p v).1, h.top⟩
theorem RowG.keep (h : RowG w lo hi e m A n c cs) {p : Addr} (hp : p.block < lo ∨ hi ≤ p.block) (v : Value) : RowG (w.setCell p v) lo hi e m A n c cs := by
  refine h.apart (row := some p.block) ⟨rfl, rfl, rfl, by simp [World.setCell], fun i hi hne => Below.heap_setCell w p v i (by rintro rfl; exact hne rfl)⟩ (fun g hg => by cases hg; exact hp)
theorem RowG.cap (h : RowG w lo hi e m A n c cs) : n ≤ c := by
  rcases h.own.2 with ⟨h0, h1⟩ | ⟨g, cap, cur, ev, hb, hg, hle, rest⟩
  · injection h0 with a1 a2 a3
    omega
  · injection ev with a1 a2 a3
    omega
theorem RowG.drewN (h : RowG w lo hi e m A n c cs) (k : Nat) : RowG (w.drewN k) lo hi e m A n c cs := h.ext ((Ext.refl _).drewN k)
end
/-- The value v holds n elements of m cells each, cs together, in memory that was made behind w. -/
structure OwnG (e : TypeId) (m : Nat) (w w' : World) (v : Value) (n : Nat) (cs : List Value) : Prop where
  own : w'.ownsRow w.heap.size e m v n cs
  ext : Ext w w'
section
variable {e : TypeId} {m : Nat} {w w1 w' w'' : World} {v : Value} {n : Nat} {cs : List Value}
theorem OwnG.forms (h : OwnG e m w w' v n cs) : ∃ A c, v = .slice A n c := by
  rcases ownsRow_forms h.own with ⟨rfl, h0⟩ | ⟨g, cap, rfl⟩
  · exact ⟨none, 0, by rw [h0]⟩
  · exact ⟨_, _, rfl⟩
theorem OwnG.trans (h : OwnG e m w w' v n cs) (k : Ext w' w'') : OwnG e m w w'' v n cs := by
  refine ⟨⟨h.own.1, ?_⟩, h.ext.trans k⟩
  rcases h.own.2 with h0 | ⟨g, cap, cur, ev, hb, hg, rest⟩
  · exact .inl h0
  · refine .inr ⟨g, cap, cur, ev, hb, ?_, rest⟩
    rw [Below.block k g (Array.getElem?_eq_some_iff.1 hg).1]
    exact hg
theorem OwnG.rebase (h : OwnG e m w1 w' v n cs) (k : Ext w w1) : OwnG e m w w' v n cs := ⟨ownsRow_le h.own k.size, k.trans h.ext⟩
theorem OwnG.row {A : Option Addr} {c : Nat} (h : OwnG e m w w' (.slice A n c) n cs) : RowG w' w.heap.size w'.heap.size e m A n c cs :=
  ⟨h.own, fun a ha => (World.ownsRow.lt h.own a.block (by rw [ha]; rfl)).2⟩
theorem ownG_empty (h : Ext w w') (e : TypeId) (m : Nat) : OwnG e m w (w'.alloc (.cells #[] e)) (.slice (some ⟨w'.heap.size, 0, none⟩) 0 0) 0 [] :=
  ⟨⟨by simp, .inr ⟨w'.heap.size, 0, #[], rfl, h.size, heap_alloc_new _ _, Nat.le_refl _, by simp [maxLen], by simp, by simp⟩⟩, h.alloc _⟩
theorem ownG_nil (h : Ext w w') (e : TypeId) (m : Nat) : OwnG e m w w' (.slice none 0 0) 0 [] := ⟨⟨by simp, .inl ⟨rfl, rfl⟩⟩, h⟩
end
/-- What is known of an element's type: its cells and bytes. -/
def ElG (P : Program) (e : TypeId) (m bytes : Nat) : Prop := ∃ i z, P.info? e = some i ∧ i.zero = some z ∧ i.size = m ∧ i.bytes = bytes ∧ z.cells.size = m
theorem elG {P : Program} {e : TypeId} {m bytes : Nat} {z : Value} (h : (P.info? e).map (fun i => (i.zero, i.size, i.bytes)) = some (some z, m, bytes)) (hz : z.cells.size = m) : ElG P e m bytes := by
  obtain ⟨i0, hi, hz0, hz1, hz2⟩ := info_parts h
  exact ⟨i0, z, hi, hz0, hz1, hz2, hz⟩
section
variable {e : TypeId} {m bytes : Nat} {w W : World} {v : Value} {n : Nat} {cs ys : List Value}
theorem newsG {B : Nat} {fr : Nat × Nat} {ar : Array Value} {t' : TypeId} (hB : W.heap[B]? = some (.cells ar t' fr)) (hc : ar.toList = ys) : ∀ j u, ys[j]? = some u → W.cell? ((⟨B, 0, none⟩ : Addr).add j) = some u := by
  rw [← hc]
  exact World.news_of_block hB
theorem stepG {ops : Array Oper} {o : Oper} {a : Act} {K : Act → World → Prop} {Q : Exit → Act → World → Prop} {E : Prop} (hI : ElG Tryz.prog e m bytes) (hm : 0 < m ∧ bytes ≤ 512) (hgd : o.guard = none) (s x : Operand) {t : TypeId} (ht : Tryz.prog.underlying t = some (.slice e))
    (ho : o.op = .call { callee := .builtin .append, args := #[s, x], argTypes := #[t, t] }) (hs : a.eval s = v) (hown : OwnG e m w W v n cs) (hn : n ≤ 1000000) {B : Nat}
    (hx : a.eval x = .slice (some ⟨B, 0, none⟩) 1 1) {ar : Array Value} {t' : TypeId} {fr : Nat × Nat} (hB : W.heap[B]? = some (.cells ar t' fr)) (hc : ar.toList = ys) (hl : ys.length = m) (h1 : ∀ u ∈ ys, u.oneCell' = true)
    (h : ∀ v' w', OwnG e m w w' v' (n + 1) (cs ++ ys) → K (a.put o.dst v') w') :
    if Region.wanted o (yielded ops a.tmps) = true then Oper.wp Tryz.prog o a W K Q else E := by
  obtain ⟨i, z, hi, hz0, hz1, hz2, hz3⟩ := hI
  refine step_append_lies W hgd s x t ho w.heap.size e i z m bytes ht hi hz0 hz1 hz2 hz3 hm.1 v n _ hs hown.own ⟨B, 0, none⟩ 1 1 ys hx (by rw [hl, Nat.one_mul]) (newsG hB hc) h1 (by omega) (by unfold maxLen; omega) ?_ hown.ext.size W.heap.size rfl ?_
  · exact Nat.le_trans (Nat.mul_le_mul (show n + 1 ≤ 1000001 by omega) hm.2) (by omega)
  · intro g cap w' ho' hg _ _
    exact h _ _ ⟨ho', hown.ext.grown hg (fun k hk => (World.ownsRow.lt hown.own k hk).1)⟩
theorem appG {ops : Array Oper} {rest : List Oper} {o : Oper} {a : Act} {Q : Exit → Act → World → Prop} (hI : ElG Tryz.prog e m bytes) (hm : 0 < m ∧ bytes ≤ 512) (hgd : o.guard = none) (s x : Operand) {t : TypeId} (ht : Tryz.prog.underlying t = some (.slice e))
    (ho : o.op = .call { callee := .builtin .append, args := #[s, x], argTypes := #[t, t] }) (hs : a.eval s = v) (hown : OwnG e m w W v n cs) (hn : n ≤ 1000000) {B : Nat}
    (hx : a.eval x = .slice (some ⟨B, 0, none⟩) 1 1) {ar : Array Value} {t' : TypeId} {fr : Nat × Nat} (hB : W.heap[B]? = some (.cells ar t' fr)) (hc : ar.toList = ys) (hl : ys.length = m) (h1 : ∀ u ∈ ys, u.oneCell' = true)
    (h : ∀ v' w', OwnG e m w w' v' (n + 1) (cs ++ ys) → wpList Tryz.prog ops Q rest (a.put o.dst v') w') :
    wpList Tryz.prog ops Q (o :: rest) a W := by
  obtain ⟨i, z, hi, hz0, hz1, hz2, hz3⟩ := hI
  refine wpList_append_lies W hgd s x t ho w.heap.size e i z m bytes ht hi hz0 hz1 hz2 hz3 hm.1 v n _ hs hown.own ⟨B, 0, none⟩ 1 1 ys hx (by rw [hl, Nat.one_mul]) (newsG hB hc) h1 (by omega) (by unfold maxLen; omega) ?_ hown.ext.size W.heap.size rfl ?_
  · exact Nat.le_trans (Nat.mul_le_mul (show n + 1 ≤ 1000001 by omega) hm.2) (by omega)
  · intro g cap w' ho' hg _ _
    exact h _ _ ⟨ho', hown.ext.grown hg (fun k hk => (World.ownsRow.lt hown.own k hk).1)⟩
end
end Go.Proofs.YtbihbhdaenhdoaaGreat
