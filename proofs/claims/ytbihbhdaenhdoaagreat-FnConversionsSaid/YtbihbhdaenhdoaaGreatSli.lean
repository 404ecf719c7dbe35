/- Slices of integers that are read: 'Ints w A n xs': the slice (A, n) holds the numbers xs. Plain lemmas. -/
import Derived.Test.YtbihbhdaenhdoaaGreatExt
import Derived.Laws.AppendOwn
import Derived.OwnWalk
namespace Go.Proofs.YtbihbhdaenhdoaaGreat
set_option linter.unusedVariables false
set_option linter.unusedSimpArgs false
open Go.ChangeShapes Go.WideShapes Go.ChangeAt Go.RowKit Go.Joins

theorem cell_lt {w : World} {b o : Nat} {v : Value} (h : w.cell? ⟨b, o, none⟩ = some v) : b < w.heap.size := by
  rcases Nat.lt_or_ge b w.heap.size with h' | h'
  · exact h'
  · simp [World.cell?, Array.getElem?_eq_none h'] at h

/-- The slice (A, n) of int64 holds xs. -/
structure Ints (w : World) (A : Option Addr) (n : Nat) (xs : List Int) : Prop where
  len : xs.length = n
  small : n ≤ 9223372036854775807
  bds : ∀ x ∈ xs, -9223372036854775808 ≤ x ∧ x ≤ 9223372036854775807
  at_ : 0 < n → ∃ b off, A = some ⟨b, off, none⟩ ∧ b < w.heap.size ∧ ∀ i, i < n → w.cell? ⟨b, off + i, none⟩ = some (.int .i64 (xs[i]?.getD 0))

theorem Ints.ext {w w' : World} {A : Option Addr} {n : Nat} {xs : List Int} (h : Ints w A n xs) (k : Ext w w') : Ints w' A n xs :=
  ⟨h.len, h.small, h.bds, fun hn => by
    obtain ⟨b, off, e, hb, hc⟩ := h.at_ hn
    exact ⟨b, off, e, Nat.lt_of_lt_of_le hb k.size, fun i hi => k.cell hb (hc i hi)⟩⟩
theorem Ints.nil (w : World) (A : Option Addr) : Ints w A 0 [] := ⟨rfl, by omega, by simp, fun h => absurd h (by omega)⟩
theorem Ints.drewN {w : World} {A : Option Addr} {n : Nat} {xs : List Int} (h : Ints w A n xs) (m : Nat) : Ints (w.drewN m) A n xs := h.ext ((Ext.refl _).drewN m)
theorem Ints.getD_bd {w : World} {A : Option Addr} {n : Nat} {xs : List Int} (h : Ints w A n xs) (i : Nat) : -9223372036854775808 ≤ xs[i]?.getD 0 ∧ xs[i]?.getD 0 ≤ 9223372036854775807 := by
  rcases Nat.lt_or_ge i xs.length with hi | hi
  · rw [List.getElem?_eq_getElem hi]
    exact h.bds _ (List.getElem_mem hi)
  · rw [List.getElem?_eq_none hi]
    simp
/-- An argument's reading. -/
theorem argInts {H : Type} {enc : TypeId × Value → H} {P : Program} {W : World} {t e : TypeId} {A : Option Addr} {n c : Nat} {d : DataW H} {p : List MemPlace} (ht : P.underlying t = some (.slice e)) (he : P.underlying e = some (.int .i64)) (hc : P.cellsOf e = 1)
    (h : DataW.Trod enc P W 0 (fun _ => true) true t (.slice A n c) d p) : ∃ xs, Ints W A n xs := by
  obtain ⟨fuel, hf⟩ := h
  rcases open_ints ht he hc hf with ⟨hcs, hx⟩ | ⟨a, len, cap, zs, hcs, _, hl, hm, hz, hx, hcell, hwz⟩
  · obtain ⟨rfl, rfl, rfl⟩ : A = none ∧ n = 0 ∧ c = 0 := by simpa [Value.cells] using hcs
    exact ⟨[], Ints.nil _ _⟩
  · obtain ⟨rfl, rfl, rfl⟩ : A = some a ∧ n = len ∧ c = cap := by simpa [Value.cells] using hcs
    simp only [if_true] at hz
    unfold maxLen at hm
    refine ⟨zs.take n, by simp; omega, by omega, fun x hx => bounds_i64 (hwz x (List.mem_of_mem_take hx)), fun hn => ?_⟩
    obtain ⟨b, off, rfl, hcc⟩ := ints_at hcell (by omega)
    refine ⟨b, off, rfl, cell_lt (hcc 0 (by omega)), fun i hi => ?_⟩
    rw [hcc i (by omega)]
    simp [hi]
/-- What the call made. -/
theorem Ints.of_own {w : World} {base : Nat} {e : TypeId} {A : Option Addr} {n c : Nat} {xs : List Int} (h : w.ownsRow base e 1 (.slice A n c) n (xs.map (Value.int .i64))) (hn : n ≤ 9223372036854775807) (hb : ∀ x ∈ xs, -9223372036854775808 ≤ x ∧ x ≤ 9223372036854775807) : Ints w A n xs := by
  have hl : xs.length = n := by have := h.1; simpa using this
  refine ⟨hl, hn, hb, fun h0 => ?_⟩
  obtain ⟨g, cap, hv⟩ := ownsRow_form h h0
  injection hv with hA
  subst hA
  have key : ∀ i, i < n → w.cell? ⟨g, 0 + i, none⟩ = some (.int .i64 (xs[i]?.getD 0)) := fun i hi => by
    have := World.ownsRow.cells h (g := g) rfl i (Value.int .i64 (xs[i]?.getD 0)) (by simp [List.getElem?_eq_getElem (show i < xs.length by omega)])
    rw [Nat.zero_add]
    rw [← this]
    by_cases hi0 : i = 0 <;> simp [Addr.add, hi0]
  exact ⟨g, 0, rfl, cell_lt (key 0 h0), key⟩

theorem Ext.grown {a w w' : World} {row : Option Nat} (h : Ext a w) (hg : w.grownBy w' row) (hr : ∀ k, row = some k → a.heap.size ≤ k) : Ext a w' := Below.grown h hg h.size hr
/-- The slice v holds ys, in memory that was made behind w. -/
structure Own (w w' : World) (v : Value) (ys : List Int) : Prop where
  own : w'.ownsRow w.heap.size 2 1 v ys.length (ys.map (Value.int .i64))
  ext : Ext w w'
theorem Own.forms {w w' : World} {v : Value} {ys : List Int} (h : Own w w' v ys) : ∃ A c, v = .slice A ys.length c := by
  rcases ownsRow_forms h.own with ⟨rfl, h0⟩ | ⟨g, cap, rfl⟩
  · exact ⟨none, 0, by rw [h0]⟩
  · exact ⟨_, _, rfl⟩
theorem Own.ints {w w' : World} {A : Option Addr} {n c : Nat} {ys : List Int} (h : Own w w' (.slice A n c) ys) (hn : ys.length = n) (hs : n ≤ 9223372036854775807) (hb : ∀ y ∈ ys, -9223372036854775808 ≤ y ∧ y ≤ 9223372036854775807) : Ints w' A n ys := by
  subst hn
  exact Ints.of_own h.own hs hb
theorem Own.trans {w w' w'' : World} {v : Value} {ys : List Int} (h : Own w w' v ys) (k : Ext w' w'') : Own w w'' v ys := by
  refine ⟨⟨h.own.1, ?_⟩, h.ext.trans k⟩
  rcases h.own.2 with h0 | ⟨g, cap, cur, e, hb, hg, rest⟩
  · exact .inl h0
  · refine .inr ⟨g, cap, cur, e, hb, ?_, rest⟩
    rw [Below.block k g (Array.getElem?_eq_some_iff.1 hg).1]
    exact hg
/-- What a function hands back that makes a slice of integers. -/
def RetInts (w : World) (ys : List Int) (e : Ending) (w' : World) : Prop := ∃ A c, e = .returned (.slice A ys.length c) ∧ Own w w' (.slice A ys.length c) ys
theorem infoInt : (Tryz.prog.info? 2).map (fun i => (i.zero, i.size, i.bytes)) = some (some (.int .i64 0), 1, 8) := by kernel_rfl
theorem own_snoc {w wr w1 : World} {v v' : Value} {ys : List Int} {y : Int} {k : Nat} {o : Obj} (hl : ys.length = k) (h : Own w wr v ys) (hown : w1.ownsRow w.heap.size 2 1 v' (k + 1) (ys.map (Value.int .i64) ++ [.int .i64 y])) (hg : (wr.alloc o).grownBy w1 v.ownBlock) : Own w w1 v' (ys ++ [y]) := by
  subst hl
  refine ⟨by simpa using hown, (h.ext.alloc o).grown hg (fun k hk => (World.ownsRow.lt h.own k hk).1)⟩
theorem own_empty {w w' : World} (h : Ext w w') : Own w (w'.alloc (.cells #[] 2)) (.slice (some ⟨w'.heap.size, 0, none⟩) 0 0) [] :=
  ⟨⟨rfl, .inr ⟨w'.heap.size, 0, #[], rfl, h.size, heap_alloc_new _ _, Nat.le_refl _, by simp [maxLen], rfl, rfl⟩⟩, h.alloc _⟩
/-- 'append(out, y)' onto a slice of the call's own. -/
theorem app1 {ops : Array Oper} {rest : List Oper} {o : Oper} {a : Act} {Q : Exit → Act → World → Prop} (hgd : o.guard = none) (s x : Operand)
    (ho : o.op = .call { callee := .builtin .append, args := #[s, x], argTypes := #[24, 24] }) {w wr : World} (v : Value) (ys : List Int) (y : Int) (hs : a.eval s = v) (hown : Own w wr v ys)
    (hx : a.eval x = .slice (some ⟨wr.heap.size, 0, none⟩) 1 1) (hlen : ys.length ≤ 1000000) (h : ∀ v' w', Own w w' v' (ys ++ [y]) → wpList Tryz.prog ops Q rest (a.put o.dst v') w') :
    wpList Tryz.prog ops Q (o :: rest) a (wr.alloc (.cells #[.int .i64 y] 2)) := by
  obtain ⟨i0, hi, hz0, hz1, hz2⟩ := info_parts infoInt
  refine wpList_append_own _ hgd s x 24 ho w.heap.size 2 i0 (.int .i64 0) 1 8 Tryz.underlying24 hi hz0 hz1 hz2 rfl (by decide) v ys.length _ hs (hown.own.alloc _) ⟨wr.heap.size, 0, none⟩ 1 1 [.int .i64 y] hx rfl ?_ ?_ ?_ ?_ ?_ ?_
  · intro j u hj
    match j, hj with
    | 0, hj =>
      simp at hj
      subst hj
      simp [Addr.add]
  · intro u hu
    simp at hu
    subst hu
    rfl
  · unfold maxLen; omega
  · omega
  · have := hown.ext.size
    simp
    omega
  · intro v' w' ho' hg _
    exact h v' w' (own_snoc rfl hown ho' hg)
end Go.Proofs.YtbihbhdaenhdoaaGreat
