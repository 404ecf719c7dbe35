/- Appending to a row of numbers of the call's own (slices of integers, or of structs of integers), in plain regions and in regions that draw. Plain lemmas. -/
import Derived.Test.YtbihbhdaenhdoaaGreatRow
import Derived.Deep.AppendLies
import Derived.Deep.RegionHeld3
namespace Go.Proofs.YtbihbhdaenhdoaaGreat
set_option linter.unusedVariables false
set_option linter.unusedSimpArgs false
open Go.RowKit Go.Joins

/-- The slice v holds n elements of m numbers each, xs together, in memory that was made behind w. -/
structure OwnR (e : TypeId) (m : Nat) (w w' : World) (v : Value) (n : Nat) (xs : List Int) : Prop where
  own : w'.ownsRow w.heap.size e m v n (xs.map (Value.int .i64))
  ext : Ext w w'
section
variable {e : TypeId} {m : Nat} {w w1 w' w'' : World} {v : Value} {n : Nat} {xs : List Int}
theorem OwnR.forms (h : OwnR e m w w' v n xs) : ∃ A c, v = .slice A n c := by
  rcases ownsRow_forms h.own with ⟨rfl, h0⟩ | ⟨g, cap, rfl⟩
  · exact ⟨none, 0, by rw [h0]⟩
  · exact ⟨_, _, rfl⟩
theorem OwnR.len (h : OwnR e m w w' v n xs) : xs.length = n * m := by simpa using h.own.1
theorem OwnR.trans (h : OwnR e m w w' v n xs) (k : Ext w' w'') : OwnR e m w w'' v n xs := by
  refine ⟨⟨h.own.1, ?_⟩, h.ext.trans k⟩
  rcases h.own.2 with h0 | ⟨g, cap, cur, ev, hb, hg, rest⟩
  · exact .inl h0
  · refine .inr ⟨g, cap, cur, ev, hb, ?_, rest⟩
    rw [Below.block k g (Array.getElem?_eq_some_iff.1 hg).1]
    exact hg
theorem OwnR.rebase (h : OwnR e m w1 w' v n xs) (k : Ext w w1) : OwnR e m w w' v n xs := ⟨ownsRow_le h.own k.size, k.trans h.ext⟩
theorem OwnR.row {A : Option Addr} {c : Nat} (h : OwnR e m w w' (.slice A n c) n xs) : Row w' w.heap.size w'.heap.size e m A n c xs :=
  ⟨h.own, fun a ha => (World.ownsRow.lt h.own a.block (by rw [ha]; rfl)).2⟩
theorem ownR_empty (h : Ext w w') (e : TypeId) (m : Nat) : OwnR e m w (w'.alloc (.cells #[] e)) (.slice (some ⟨w'.heap.size, 0, none⟩) 0 0) 0 [] :=
  ⟨⟨by simp, .inr ⟨w'.heap.size, 0, #[], rfl, h.size, heap_alloc_new _ _, Nat.le_refl _, by simp [maxLen], by simp, by simp⟩⟩, h.alloc _⟩
theorem ownR_nil (h : Ext w w') (e : TypeId) (m : Nat) : OwnR e m w w' (.slice none 0 0) 0 [] := ⟨⟨by simp, .inl ⟨rfl, rfl⟩⟩, h⟩
theorem RetRow.of_ownR {r : Int} {A : Option Addr} {c : Nat} {en : Ending} (h : en = .returned (.tuple #[.slice A n c, .int .i64 r])) (ho : OwnR e m w w' (.slice A n c) n xs) : RetRow w e m n xs r en w' :=
  ⟨A, c, h, ho.row, ho.ext⟩
end
theorem heap_alloc_set (w : World) (a : Addr) (u : Value) (o : Obj) : ((w.setCell a u).alloc o).heap[w.heap.size]? = some o := by
  have h := heap_alloc_new (w.setCell a u) o
  rwa [show (w.setCell a u).heap.size = w.heap.size by simp [World.setCell]] at h
theorem Row.lower {w : World} {lo lo' hi : Nat} {e : TypeId} {m : Nat} {A : Option Addr} {n c : Nat} {xs : List Int} (h : Row w lo hi e m A n c xs) (k : lo' ≤ lo) : Row w lo' hi e m A n c xs := ⟨ownsRow_le h.own k, h.top⟩
theorem RetRow.rebase {w w1 w' : World} {e : TypeId} {m n : Nat} {ys : List Int} {r : Int} {en : Ending} (h : RetRow w1 e m n ys r en w') (k : Ext w w1) : RetRow w e m n ys r en w' := by
  obtain ⟨A, c, h1, h2, h3⟩ := h
  exact ⟨A, c, h1, h2.lower k.size, k.trans h3⟩
theorem heap_alloc_two (w : World) (o o' : Obj) : ((w.alloc o).alloc o').heap[w.heap.size + 1]? = some o' := by
  have h := heap_alloc_new (w.alloc o) o'
  rwa [show (w.alloc o).heap.size = w.heap.size + 1 by simp] at h
/-- What is known of an element's type. -/
def ElInfo (P : Program) (e : TypeId) (m : Nat) : Prop := ∃ i z, P.info? e = some i ∧ i.zero = some z ∧ i.size = m ∧ i.bytes = m * 8 ∧ z.cells.size = m
theorem elInfo {P : Program} {e : TypeId} {m : Nat} {z : Value} (h : (P.info? e).map (fun i => (i.zero, i.size, i.bytes)) = some (some z, m, m * 8)) (hz : z.cells.size = m) : ElInfo P e m := by
  obtain ⟨i0, hi, hz0, hz1, hz2⟩ := info_parts h
  exact ⟨i0, z, hi, hz0, hz1, hz2, hz⟩
theorem elInt : ElInfo Tryz.prog 2 1 := elInfo infoInt rfl
theorem oneCell_ints (ys : List Int) : ∀ u ∈ ys.map (Value.int .i64), u.oneCell' = true := by
  intro u hu
  simp only [List.mem_map] at hu
  obtain ⟨y, _, rfl⟩ := hu
  rfl
section
variable {e : TypeId} {m : Nat} {w W : World} {v : Value} {n : Nat} {xs ys : List Int}
/-- An appended element in its own block. -/
theorem news_ints {B : Nat} {fr : Nat × Nat} {cs : Array Value} {t' : TypeId} (hB : W.heap[B]? = some (.cells cs t' fr)) (hc : cs.toList = ys.map (Value.int .i64)) : ∀ j u, (ys.map (Value.int .i64))[j]? = some u → W.cell? ((⟨B, 0, none⟩ : Addr).add j) = some u := by
  rw [← hc]
  exact World.news_of_block hB
/-- 'append(out, y)' at a step of a region that draws: y lies in the block B. -/
theorem stepM {ops : Array Oper} {o : Oper} {a : Act} {K : Act → World → Prop} {Q : Exit → Act → World → Prop} {E : Prop} (hI : ElInfo Tryz.prog e m) (hm : 0 < m ∧ m ≤ 64) (hgd : o.guard = none) (s x : Operand) {t : TypeId} (ht : Tryz.prog.underlying t = some (.slice e))
    (ho : o.op = .call { callee := .builtin .append, args := #[s, x], argTypes := #[t, t] }) (hs : a.eval s = v) (hown : OwnR e m w W v n xs) (hn : n ≤ 1000000) {B : Nat}
    (hx : a.eval x = .slice (some ⟨B, 0, none⟩) 1 1) {cs : Array Value} {t' : TypeId} {fr : Nat × Nat} (hB : W.heap[B]? = some (.cells cs t' fr)) (hc : cs.toList = ys.map (Value.int .i64)) (hl : ys.length = m)
    (h : ∀ v' w', OwnR e m w w' v' (n + 1) (xs ++ ys) → K (a.put o.dst v') w') :
    if Region.wanted o (yielded ops a.tmps) = true then Oper.wp Tryz.prog o a W K Q else E := by
  obtain ⟨i, z, hi, hz0, hz1, hz2, hz3⟩ := hI
  refine step_append_lies W hgd s x t ho w.heap.size e i z m (m * 8) ht hi hz0 hz1 hz2 hz3 hm.1 v n _ hs hown.own ⟨B, 0, none⟩ 1 1 (ys.map (Value.int .i64)) hx (by simp [hl]) (news_ints hB hc) (oneCell_ints ys) (by omega) (by unfold maxLen; omega) ?_ hown.ext.size W.heap.size rfl ?_
  · exact Nat.le_trans (Nat.mul_le_mul (show n + 1 ≤ 1000001 by omega) (show m * 8 ≤ 512 by omega)) (by omega)
  · intro g cap w' ho' hg _ _
    exact h _ _ ⟨by simpa using ho', hown.ext.grown hg (fun k hk => (World.ownsRow.lt hown.own k hk).1)⟩
/-- 'append(out, y)' in a plain region. -/
theorem appM {ops : Array Oper} {rest : List Oper} {o : Oper} {a : Act} {Q : Exit → Act → World → Prop} (hI : ElInfo Tryz.prog e m) (hm : 0 < m ∧ m ≤ 64) (hgd : o.guard = none) (s x : Operand) {t : TypeId} (ht : Tryz.prog.underlying t = some (.slice e))
    (ho : o.op = .call { callee := .builtin .append, args := #[s, x], argTypes := #[t, t] }) (hs : a.eval s = v) (hown : OwnR e m w W v n xs) (hn : n ≤ 1000000) {B : Nat}
    (hx : a.eval x = .slice (some ⟨B, 0, none⟩) 1 1) {cs : Array Value} {t' : TypeId} {fr : Nat × Nat} (hB : W.heap[B]? = some (.cells cs t' fr)) (hc : cs.toList = ys.map (Value.int .i64)) (hl : ys.length = m)
    (h : ∀ v' w', OwnR e m w w' v' (n + 1) (xs ++ ys) → wpList Tryz.prog ops Q rest (a.put o.dst v') w') :
    wpList Tryz.prog ops Q (o :: rest) a W := by
  obtain ⟨i, z, hi, hz0, hz1, hz2, hz3⟩ := hI
  refine wpList_append_lies W hgd s x t ho w.heap.size e i z m (m * 8) ht hi hz0 hz1 hz2 hz3 hm.1 v n _ hs hown.own ⟨B, 0, none⟩ 1 1 (ys.map (Value.int .i64)) hx (by simp [hl]) (news_ints hB hc) (oneCell_ints ys) (by omega) (by unfold maxLen; omega) ?_ hown.ext.size W.heap.size rfl ?_
  · exact Nat.le_trans (Nat.mul_le_mul (show n + 1 ≤ 1000001 by omega) (show m * 8 ≤ 512 by omega)) (by omega)
  · intro g cap w' ho' hg _ _
    exact h _ _ ⟨by simpa using ho', hown.ext.grown hg (fun k hk => (World.ownsRow.lt hown.own k hk).1)⟩
/-- 'append(out, y)' in a plain region, for a row known by the least block it may lie in. -/
theorem appL {ops : Array Oper} {rest : List Oper} {o : Oper} {a : Act} {Q : Exit → Act → World → Prop} {lo : Nat} (hI : ElInfo Tryz.prog e m) (hm : 0 < m ∧ m ≤ 64) (hgd : o.guard = none) (s x : Operand) {t : TypeId} (ht : Tryz.prog.underlying t = some (.slice e))
    (ho : o.op = .call { callee := .builtin .append, args := #[s, x], argTypes := #[t, t] }) (hs : a.eval s = v) (hown : W.ownsRow lo e m v n (xs.map (Value.int .i64))) (hlo : lo ≤ W.heap.size) (hn : n ≤ 1000000) {B : Nat}
    (hx : a.eval x = .slice (some ⟨B, 0, none⟩) 1 1) {cs : Array Value} {t' : TypeId} {fr : Nat × Nat} (hB : W.heap[B]? = some (.cells cs t' fr)) (hc : cs.toList = ys.map (Value.int .i64)) (hl : ys.length = m)
    (h : ∀ v' w', w'.ownsRow lo e m v' (n + 1) ((xs ++ ys).map (Value.int .i64)) → W.grownBy w' v.ownBlock → wpList Tryz.prog ops Q rest (a.put o.dst v') w') :
    wpList Tryz.prog ops Q (o :: rest) a W := by
  obtain ⟨i, z, hi, hz0, hz1, hz2, hz3⟩ := hI
  refine wpList_append_lies W hgd s x t ho lo e i z m (m * 8) ht hi hz0 hz1 hz2 hz3 hm.1 v n _ hs hown ⟨B, 0, none⟩ 1 1 (ys.map (Value.int .i64)) hx (by simp [hl]) (news_ints hB hc) (oneCell_ints ys) (by omega) (by unfold maxLen; omega) ?_ hlo W.heap.size rfl ?_
  · exact Nat.le_trans (Nat.mul_le_mul (show n + 1 ≤ 1000001 by omega) (show m * 8 ≤ 512 by omega)) (by omega)
  · intro g cap w' ho' hg _ _
    exact h _ _ (by simpa using ho') hg
/-- The row of v lies apart from the blocks from lo to hi. -/
def Apart (lo hi : Nat) (v : Value) : Prop := ∀ g, v.ownBlock = some g → g < lo ∨ hi ≤ g
/-- 'append(out, y)' in a plain region, where another row lies between lo and hi. -/
theorem appB {ops : Array Oper} {rest : List Oper} {o : Oper} {a : Act} {Q : Exit → Act → World → Prop} {lo hi' : Nat} (hI : ElInfo Tryz.prog e m) (hm : 0 < m ∧ m ≤ 64) (hgd : o.guard = none) (s x : Operand) {t : TypeId} (ht : Tryz.prog.underlying t = some (.slice e))
    (ho : o.op = .call { callee := .builtin .append, args := #[s, x], argTypes := #[t, t] }) (hs : a.eval s = v) (hown : OwnR e m w W v n xs) (hap : Apart lo hi' v) (hhi : hi' ≤ W.heap.size) (hn : n ≤ 1000000) {B : Nat}
    (hx : a.eval x = .slice (some ⟨B, 0, none⟩) 1 1) {cs : Array Value} {t' : TypeId} {fr : Nat × Nat} (hB : W.heap[B]? = some (.cells cs t' fr)) (hc : cs.toList = ys.map (Value.int .i64)) (hl : ys.length = m)
    (h : ∀ v' w', OwnR e m w w' v' (n + 1) (xs ++ ys) → Apart lo hi' v' → W.grownBy w' v.ownBlock → wpList Tryz.prog ops Q rest (a.put o.dst v') w') :
    wpList Tryz.prog ops Q (o :: rest) a W := by
  obtain ⟨i, z, hi, hz0, hz1, hz2, hz3⟩ := hI
  refine wpList_append_lies W hgd s x t ho w.heap.size e i z m (m * 8) ht hi hz0 hz1 hz2 hz3 hm.1 v n _ hs hown.own ⟨B, 0, none⟩ 1 1 (ys.map (Value.int .i64)) hx (by simp [hl]) (news_ints hB hc) (oneCell_ints ys) (by omega) (by unfold maxLen; omega) ?_ hown.ext.size W.heap.size rfl ?_
  · exact Nat.le_trans (Nat.mul_le_mul (show n + 1 ≤ 1000001 by omega) (show m * 8 ≤ 512 by omega)) (by omega)
  · intro g cap w' ho' hg hat _
    refine h _ _ ⟨by simpa using ho', hown.ext.grown hg (fun k hk => (World.ownsRow.lt hown.own k hk).1)⟩ (fun k hk => ?_) hg
    simp [Value.ownBlock] at hk
    subst hk
    rcases hat with h1 | h1
    · exact hap _ h1
    · right; omega
theorem Apart.of_lt {lo hi' g : Nat} (h : g < lo) (n c : Nat) : Apart lo hi' (.slice (some ⟨g, 0, none⟩) n c) := fun k hk => by
  simp [Value.ownBlock] at hk
  omega
/-- The other row stays. -/
theorem Row.stays {w w1 w' : World} {lo hi : Nat} {e : TypeId} {m : Nat} {A : Option Addr} {n c : Nat} {xs : List Int} (h : Row w lo hi e m A n c xs) {v : Value} (hx : Ext w w1) (hg : w1.grownBy w' v.ownBlock) (hap : Apart lo hi v) : Row w' lo hi e m A n c xs :=
  (h.ext hx).apart hg hap
end
theorem Row.store {w : World} {lo hi : Nat} {e : TypeId} {m : Nat} {g n c : Nat} {xs : List Int} (h : Row w lo hi e m (some ⟨g, 0, none⟩) n c xs) (p : Nat) (v : Int) : Row (w.setCell ⟨g, p, none⟩ (.int .i64 v)) lo hi e m (some ⟨g, 0, none⟩) n c (xs.set p v) := by
  refine ⟨?_, h.top⟩
  rw [List.map_set]
  exact (World.ownsRow.stored h.own p (.int .i64 v)).1
theorem Row.cellAt {w : World} {lo hi : Nat} {e : TypeId} {m : Nat} {g n c : Nat} {xs : List Int} (h : Row w lo hi e m (some ⟨g, 0, none⟩) n c xs) {p : Nat} (hp : p < n * m) : w.cell? ⟨g, p, none⟩ = some (.int .i64 (xs[p]?.getD 0)) ∧ w.frozen? ⟨g, p, none⟩ = false := by
  refine ⟨?_, World.ownsRow.frozenAt h.own p⟩
  rw [World.ownsRow.cellAt h.own p hp, List.getElem?_map, List.getElem?_eq_getElem (show p < xs.length by rw [h.len]; exact hp)]
  rfl
end Go.Proofs.YtbihbhdaenhdoaaGreat
