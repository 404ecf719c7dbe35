/- Rows of bytes that come from a conversion of a string, and appending a byte to them. Plain lemmas. -/
import Derived.Test.YtendemigegjbfaaByt
import Derived.Laws.IdiomStrings
import Derived.Laws.AppendOwn
namespace Go.Proofs.Ytendemigegjbfaa
set_option linter.unusedVariables false
set_option linter.unusedSimpArgs false
open Go.RowKit Go.Joins

/-- v, made behind w, holds the bytes l; its row may bear a conversion's mark behind its end. -/
structure OwnB (w w' : World) (v : Value) (l : List UInt8) : Prop where
  at_ : ∃ g cap cur fz, v = .slice (some ⟨g, 0, none⟩) l.length cap ∧ w.heap.size ≤ g ∧ w'.heap[g]? = some (.cells cur 5 fz) ∧ (cap ≤ fz.1 ∨ fz = (0, 0)) ∧ l.length ≤ cap ∧ cap ≤ maxLen ∧ cur.size = cap ∧ cur.toList.take l.length = bcs l
  ext : Ext w w'
theorem OwnB.trans {w w' w'' : World} {v : Value} {l : List UInt8} (h : OwnB w w' v l) (k : Ext w' w'') : OwnB w w'' v l := by
  obtain ⟨g, cap, cur, fz, e, hb, hg, rest⟩ := h.at_
  exact ⟨⟨g, cap, cur, fz, e, hb, (Below.block k g (Array.getElem?_eq_some_iff.1 hg).1).trans hg, rest⟩, h.ext.trans k⟩
theorem OwnB.forms {w w' : World} {v : Value} {l : List UInt8} (h : OwnB w w' v l) : ∃ g c, v = .slice (some ⟨g, 0, none⟩) l.length c := by
  obtain ⟨g, cap, cur, fz, e, _⟩ := h.at_
  exact ⟨g, cap, e⟩
theorem OwnB.cells {w w' : World} {g n c : Nat} {l : List UInt8} (h : OwnB w w' (.slice (some ⟨g, 0, none⟩) n c) l) : ∀ i (hi : i < l.length), w'.cell? ⟨g, i, none⟩ = some (.int .u8 (l[i].toNat : Int)) := fun i hi => by
  obtain ⟨g', cap, cur, fz, e, hb, hg, _, hle, _, hs, ht⟩ := h.at_
  injection e with e1 e2 e3
  cases e1
  rw [cell_of_block hg]
  have h1 : (cur.toList.take l.length)[i]? = some (.int .u8 (l[i].toNat : Int)) := by rw [ht, bcs_get hi]
  rw [List.getElem?_take_of_lt hi] at h1
  simpa using h1
/-- 'string(b)'. -/
theorem convB {w w' : World} {v : Value} {l : List UInt8} (h : OwnB w w' v l) : ∃ g c, v = .slice (some ⟨g, 0, none⟩) l.length c ∧ (Go.convert 22 9 (.slice (some ⟨g, 0, none⟩) l.length c)).run Try.prog w' = .ok (.string ⟨l.toArray⟩) w' := by
  obtain ⟨g, c, rfl⟩ := h.forms
  refine ⟨g, c, rfl, ?_⟩
  have hc : Go.Lib.Bytes w' g 0 ⟨l.toArray⟩ := fun i hi => by
    have hi' : i < l.length := hi
    rw [Nat.zero_add, h.cells i hi']
    rfl
  have := Go.Lib.run_convert_whole (P := Try.prog) w' 22 5 9 Try.underlying22 Try.underlying5 Try.underlying9 g 0 ⟨l.toArray⟩ hc c
  rwa [show (⟨l.toArray⟩ : ByteArray).size = l.length by show l.toArray.size = _; simp] at this
/-- A row of the other kind. -/
theorem OwnB.of_ownG {w w' : World} {v : Value} {l : List UInt8} (h : OwnG 5 1 w w' v l.length (bcs l)) (hl : 0 < l.length) : OwnB w w' v l := by
  rcases h.own.2 with ⟨_, h0⟩ | ⟨g, cap, cur, ev, hb, hg, h1, h2, h3, h4⟩
  · omega
  · exact ⟨⟨g, cap, cur, (0, 0), ev, hb, hg, .inr rfl, h1, h2, by omega, by rw [Nat.mul_one] at h4; exact h4⟩, h.ext⟩
/-- '[]byte(s)'. -/
theorem ownB_conv (w W : World) (s : ByteArray) (hs : s.size ≤ 1000) (hx : Ext w W) :
    OwnB w (W.drew.alloc (.cells (bytesRow s (grownCap W s.size 0 5)) 5 ((bytesRow s (grownCap W s.size 0 5)).size, (bytesRow s (grownCap W s.size 0 5)).size + 1))) (.slice (some ⟨W.heap.size, 0, none⟩) s.size (grownCap W s.size 0 5)) s.data.toList := by
  have hge := grownCap_ge W s.size 0 5
  have hcm := grownCap_le_maxLen W s.size 0 5 (by unfold maxLen; omega)
  have hl : s.data.toList.length = s.size := by simp
  have hsz : (bytesRow s (grownCap W s.size 0 5)).size = grownCap W s.size 0 5 := by
    unfold bytesRow
    rw [Array.size_append, Array.size_map, Array.size_replicate]
    show s.size + _ = _
    omega
  refine ⟨⟨W.heap.size, grownCap W s.size 0 5, _, _, by rw [hl], hx.size, heap_alloc_new W.drew _, .inl (by rw [hsz]; exact Nat.le_refl _), by omega, hcm, hsz, ?_⟩, (hx.drew).alloc _⟩
  unfold bytesRow bcs
  rw [Array.toList_append, Array.toList_map]
  rw [List.take_left' (by simp)]
/-- Appending a byte, as a run. -/
theorem run_appB {w W : World} {v : Value} {l : List UInt8} (hown : OwnB w W v l) (x : UInt8) (hl : l.length ≤ 1000000) {B : Nat} (hB : W.cell? ⟨B, 0, none⟩ = some (.int .u8 (x.toNat : Int))) (ty : TypeId) (c : Nat) :
    ∃ v' w', (Builtin.append_ #[22, 22] ty #[v, .slice (some ⟨B, 0, none⟩) 1 c]).run Try.prog W = .ok v' w' ∧ OwnB w w' v' (l ++ [x]) := by
  obtain ⟨i0, z, hi, hz0, hz1, hz2, hz3⟩ := elByte
  obtain ⟨g, cap, cur, fz, rfl, hb, hg, hfz, hle, hcm, hcs, htake⟩ := hown.at_
  have hnews : ∀ j u, [Value.int .u8 (x.toNat : Int)][j]? = some u → W.cell? ((⟨B, 0, none⟩ : Addr).add j) = some u := fun j u hj => by
    match j, hj with
    | 0, hj =>
      simp at hj
      subst hj
      simpa [Addr.add] using hB
  have hlen : (l ++ [x]).length = l.length + 1 := by simp
  by_cases hroom : l.length + 1 ≤ cap
  · have hlt : l.length < cur.size := by omega
    have hf := run_firstCells_some (P := Try.prog) W i0.size 1 ⟨B, 0, none⟩ 1 c [Value.int .u8 (x.toNat : Int)] (by rw [hz1]; rfl) hnews
    rw [hz1] at hf
    have hcell : W.cell? ⟨g, l.length, none⟩ = some cur[l.length] := by simp [World.cell?, hg, hlt]
    have hfro : W.frozen? ⟨g, l.length, none⟩ = false := by
      obtain ⟨lo, hi'⟩ := fz
      simp only [World.frozen?, hg, Bool.and_eq_false_iff, decide_eq_false_iff_not]
      rcases hfz with h | h
      · left; simp only at h; omega
      · right; cases h; omega
    have hst : (store ⟨g, l.length, none⟩ (.int .u8 (x.toNat : Int))).run Try.prog W = .ok () (W.setCell ⟨g, l.length, none⟩ (.int .u8 (x.toNat : Int))) := by
      rw [run_store Try.prog W _ _ _ rfl, hcell]
      simp [hfro]
    have hr : (Builtin.append_ #[22, 22] ty #[.slice (some ⟨g, 0, none⟩) l.length cap, .slice (some ⟨B, 0, none⟩) 1 c]).run Try.prog W = .ok (.slice (some ⟨g, 0, none⟩) (l.length + 1) cap) (W.setCell ⟨g, l.length, none⟩ (.int .u8 (x.toNat : Int))) := by
      simp [Builtin.append_, run_underlying Try.underlying22, sizeOf, typeInfo, hi, Builtin.lenOf, hroom, hf, Addr.add_lit, storeCells, hst, hz1]
    refine ⟨_, _, hr, ⟨g, cap, _, fz, by rw [hlen], hb, block_setCell hg _, hfz, by omega, hcm, by simpa using hcs, ?_⟩, hown.ext.set hb _⟩
    rw [hlen, bcs_append, ← htake, Array.toList_setIfInBounds, List.take_succ_eq_append_getElem (by simpa using hlt)]
    simp [bcs, List.take_set_of_le]
  · have holds : ∀ j u, (bcs l)[j]? = some u → W.cell? ((⟨g, 0, none⟩ : Addr).add j) = some u := fun j u hj => by
      have hj' : j < l.length := by have := (List.getElem?_eq_some_iff.1 hj).1; rwa [bcs_len] at this
      have := hown.cells j hj'
      rw [bcs_get hj'] at hj
      cases hj
      by_cases hj0 : j = 0
      · subst hj0; simpa [Addr.add] using this
      · simpa [Addr.add, hj0] using this
    have hr := run_append_grow (P := Try.prog) W 22 ty 5 i0 z Try.underlying22 hi hz0 ⟨g, 0, none⟩ l.length cap (bcs l) (by rw [bcs_len, hz1, Nat.mul_one]) holds ⟨B, 0, none⟩ 1 c [Value.int .u8 (x.toNat : Int)] (by rw [hz1]; rfl) hnews (by omega) (by omega) (growslice_fits (by omega) (by rw [hz2]; omega))
    have hge := grownCap_ge W (l.length + 1) cap 5
    have hcm2 : grownCap W (l.length + 1) cap 5 ≤ maxLen := grownCap_le_maxLen W (l.length + 1) cap 5 (by unfold maxLen; omega)
    refine ⟨_, _, hr, ⟨W.heap.size, _, _, (0, 0), by rw [hlen], hown.ext.size, heap_alloc_new W.drew _, .inr rfl, by omega, hcm2, ?_, ?_⟩, (hown.ext.drew).alloc _⟩
    · simp only [Array.size_append, List.size_toArray, size_zeroCells, hz3, bcs_len, List.length_singleton, Nat.mul_one]
      omega
    · simp only [Array.toList_append, List.append_assoc]
      rw [← List.append_assoc, bcs_append]
      exact List.take_left' (by simp [bcs])
theorem appBy {w W : World} {v : Value} {l : List UInt8} {ops : Array Oper} {rest : List Oper} {o : Oper} {a : Act} {Q : Exit → Act → World → Prop} (hgd : o.guard = none) (s x : Operand)
    (ho : o.op = .call { callee := .builtin .append, args := #[s, x], argTypes := #[22, 22] }) (hs : a.eval s = v) (hown : OwnB w W v l) (hn : l.length ≤ 1000000) {B : Nat} (y : UInt8)
    (hx : a.eval x = .slice (some ⟨B, 0, none⟩) 1 1) (hB : W.cell? ⟨B, 0, none⟩ = some (.int .u8 (y.toNat : Int)))
    (h : ∀ v' w', OwnB w w' v' (l ++ [y]) → wpList Try.prog ops Q rest (a.put o.dst v') w') :
    wpList Try.prog ops Q (o :: rest) a W := by
  refine wpList_plain hgd fun K hK => ?_
  obtain ⟨v', w', hr, h2⟩ := run_appB hown y hn hB o.type 1
  unfold Oper.wp execOp
  simp only [ho, resolve, invoke, builtin, Sem.run_bind, Sem.run_pure, Result.andThen_ok, List.map_toArray, List.map_cons, List.map_nil, hs, hx, hr]
  exact hK _ _ (h v' w' h2)
end Go.Proofs.Ytendemigegjbfaa
