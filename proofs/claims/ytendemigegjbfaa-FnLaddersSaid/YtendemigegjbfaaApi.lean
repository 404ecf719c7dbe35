/- Appending a slice of integers to a row of the call's own; parts of slices; contracts of copyNumbers, sameNumbers. No condition but the stated bounds. -/
import Derived.Test.YtendemigegjbfaaApp
import Derived.Maps.AppendAt
namespace Go.Proofs.Ytendemigegjbfaa
set_option linter.unusedVariables false
set_option linter.unusedSimpArgs false
open Go.RowKit Go.Joins

theorem addr_add (b off j : Nat) : (⟨b, off, none⟩ : Addr).add j = ⟨b, off + j, none⟩ := by
  unfold Addr.add
  by_cases h : j = 0 <;> simp [h]
section
variable {W : World} {v : Value} {n : Nat} {xs news : List Int} {lo : Nat}
theorem run_append_nil (W : World) (base : Nat) (t ty e : TypeId) (i : TypeInfo) (size : Nat) {P : Program} (ht : P.underlying t = some (.slice e)) (hi : P.info? e = some i)
    (v : Value) (n : Nat) (xs : List Value) (hown : W.ownsRow base e size v n xs) (c : Nat) : (Builtin.append_ #[t, t] ty #[v, .slice none 0 c]).run P W = .ok v W := by
  rcases hown.2 with ⟨rfl, rfl⟩ | ⟨g, cap, cur, rfl, _, _, hnc, _⟩
  · simp [Builtin.append_, run_underlying ht, sizeOf, typeInfo, hi, Builtin.lenOf, Builtin.firstCells]
  · simp [Builtin.append_, run_underlying ht, sizeOf, typeInfo, hi, Builtin.lenOf, Builtin.firstCells, hnc, storeCells]
theorem wp_appI {o : Oper} {a : Act} {K : Act → World → Prop} {Q : Exit → Act → World → Prop} (s x : Operand)
    (ho : o.op = .call { callee := .builtin .append, args := #[s, x], argTypes := #[24, 24] }) (hs : a.eval s = v) (hown : W.ownsRow lo 2 1 v n (xs.map (Value.int .i64))) (hlo : lo ≤ W.heap.size)
    {A : Option Addr} {m c : Nat} (hx : a.eval x = .slice A m c) (hr : Ints W A m news) (hnm : n + m ≤ 1000000)
    (h : ∀ v' w', w'.ownsRow lo 2 1 v' (n + m) ((xs ++ news).map (Value.int .i64)) → W.grownBy w' v.ownBlock → (v'.ownBlock = v.ownBlock ∨ v'.ownBlock = some W.heap.size) → K (a.put o.dst v') w') : o.wp Try.prog a W K Q := by
  obtain ⟨i, z, hi, hz0, hz1, hz2, hz3⟩ := elInt
  have key : ∃ v' w', (Builtin.append_ #[24, 24] o.type #[v, .slice A m c]).run Try.prog W = .ok v' w' ∧ w'.ownsRow lo 2 1 v' (n + m) ((xs ++ news).map (Value.int .i64)) ∧ W.grownBy w' v.ownBlock ∧ (v'.ownBlock = v.ownBlock ∨ v'.ownBlock = some W.heap.size) := by
    cases A with
    | none =>
      have hm : m = 0 := by
        rcases Nat.eq_zero_or_pos m with h0 | h0
        · exact h0
        · obtain ⟨b, off, e, _⟩ := hr.at_ h0
          cases e
      subst hm
      have hn : news = [] := List.eq_nil_of_length_eq_zero hr.len
      subst hn
      exact ⟨v, W, run_append_nil W lo _ _ _ i 1 Try.underlying24 hi v n _ hown c, by simpa using hown, World.grownBy.refl W _, .inl rfl⟩
    | some ad =>
      have hcells : ∀ j u, (news.map (Value.int .i64))[j]? = some u → W.cell? (ad.add j) = some u := by
        intro j u hu
        have hj : j < m := by
          have := (List.getElem?_eq_some_iff.1 hu).1
          simpa [hr.len] using this
        obtain ⟨b, off, e, _, hc⟩ := hr.at_ (by omega)
        cases e
        rw [addr_add, hc j hj]
        rw [List.getElem?_map, List.getElem?_eq_getElem (show j < news.length by rw [hr.len]; exact hj)] at hu
        rw [List.getElem?_eq_getElem (show j < news.length by rw [hr.len]; exact hj)]
        simpa using hu
      obtain ⟨v', w', hrun, h2, h3, _, h5⟩ := run_append_own_at (P := Try.prog) W lo 24 o.type 2 i z 1 8 Try.underlying24 hi hz0 hz1 hz2 hz3 (by omega) v n _ hown ad m c (news.map (Value.int .i64)) (by simp [hr.len]) hcells (oneCell_ints news) (by unfold maxLen; omega) (by omega) hlo
      exact ⟨v', w', hrun, by simpa using h2, h3, h5⟩
  obtain ⟨v', w', hrun, h2, h3, h4⟩ := key
  unfold Oper.wp execOp
  simp only [ho, resolve, invoke, builtin, Sem.run_bind, Sem.run_pure, Result.andThen_ok, List.map_toArray, List.map_cons, List.map_nil, hs, hx, hrun]
  exact h v' w' h2 h3 h4
/-- 'append(out, list...)' in a plain region. -/
theorem appI {ops : Array Oper} {rest : List Oper} {o : Oper} {a : Act} {Q : Exit → Act → World → Prop} (hgd : o.guard = none) (s x : Operand)
    (ho : o.op = .call { callee := .builtin .append, args := #[s, x], argTypes := #[24, 24] }) (hs : a.eval s = v) (hown : W.ownsRow lo 2 1 v n (xs.map (Value.int .i64))) (hlo : lo ≤ W.heap.size)
    {A : Option Addr} {m c : Nat} (hx : a.eval x = .slice A m c) (hr : Ints W A m news) (hnm : n + m ≤ 1000000)
    (h : ∀ v' w', w'.ownsRow lo 2 1 v' (n + m) ((xs ++ news).map (Value.int .i64)) → W.grownBy w' v.ownBlock → (v'.ownBlock = v.ownBlock ∨ v'.ownBlock = some W.heap.size) → wpList Try.prog ops Q rest (a.put o.dst v') w') : wpList Try.prog ops Q (o :: rest) a W :=
  wpList_plain hgd fun _ hK => wp_appI s x ho hs hown hlo hx hr hnm fun v' w' h2 h3 h4 => hK _ _ (h v' w' h2 h3 h4)
/-- 'append(out, list...)' at a step of a region that draws. -/
theorem stepI {ops : Array Oper} {o : Oper} {a : Act} {K : Act → World → Prop} {Q : Exit → Act → World → Prop} {E : Prop} (hgd : o.guard = none) (s x : Operand)
    (ho : o.op = .call { callee := .builtin .append, args := #[s, x], argTypes := #[24, 24] }) (hs : a.eval s = v) (hown : W.ownsRow lo 2 1 v n (xs.map (Value.int .i64))) (hlo : lo ≤ W.heap.size)
    {A : Option Addr} {m c : Nat} (hx : a.eval x = .slice A m c) (hr : Ints W A m news) (hnm : n + m ≤ 1000000)
    (h : ∀ v' w', w'.ownsRow lo 2 1 v' (n + m) ((xs ++ news).map (Value.int .i64)) → W.grownBy w' v.ownBlock → (v'.ownBlock = v.ownBlock ∨ v'.ownBlock = some W.heap.size) → K (a.put o.dst v') w') :
    if Region.wanted o (yielded ops a.tmps) = true then Oper.wp Try.prog o a W K Q else E := by
  have hw : Region.wanted o (yielded ops a.tmps) = true := by simp [Region.wanted, hgd]
  rw [if_pos hw]
  exact wp_appI s x ho hs hown hlo hx hr hnm h
end
section
variable {w : World} {b off n : Nat} {xs : List Int}
/-- The rest of a slice. -/
theorem Ints.drop {k : Nat} (h : Ints w (some ⟨b, off, none⟩) n xs) (hk : k ≤ n) : Ints w (some ⟨b, off + k, none⟩) (n - k) (xs.drop k) := by
  refine ⟨by rw [List.length_drop, h.len], by have := h.small; omega, fun x hx => h.bds x (List.mem_of_mem_drop hx), fun h0 => ?_⟩
  obtain ⟨b', off', e, hb, hc⟩ := h.at_ (by omega)
  simp only [Option.some.injEq, Addr.mk.injEq, and_true] at e
  obtain ⟨rfl, rfl⟩ := e
  refine ⟨b, off + k, rfl, hb, fun i hi => ?_⟩
  rw [Nat.add_assoc, hc (k + i) (by omega), List.getElem?_drop]
/-- The start of a slice. -/
theorem Ints.take {A : Option Addr} {k : Nat} (h : Ints w A n xs) (hk : k ≤ n) : Ints w A k (xs.take k) := by
  refine ⟨by rw [List.length_take, h.len]; omega, by have := h.small; omega, fun x hx => h.bds x (List.mem_of_mem_take hx), fun h0 => ?_⟩
  obtain ⟨b', off', e, hb, hc⟩ := h.at_ (by omega)
  refine ⟨b', off', e, hb, fun i hi => ?_⟩
  rw [hc i (by omega), List.getElem?_take, if_pos hi]
end
theorem ints_eq {w : World} {A : Option Addr} {n : Nat} {xs ys : List Int} (h : Ints w A n xs) (hy : ys.length = n) (he : ∀ i, i < n → xs[i]?.getD 0 = ys[i]?.getD 0) : xs = ys := by
  apply List.ext_getElem
  · rw [h.len, hy]
  · intro i h1 h2
    have := he i (by rw [← h.len]; exact h1)
    rw [List.getElem?_eq_getElem h1, List.getElem?_eq_getElem h2] at this
    simpa using this
end Go.Proofs.Ytendemigegjbfaa
