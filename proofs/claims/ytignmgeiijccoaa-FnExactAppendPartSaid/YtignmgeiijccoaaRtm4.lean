/- Routines: copies by the program and the reference. No condition but the stated bounds. -/
import Derived.Test.YtignmgeiijccoaaRtm3
namespace Go.Proofs.Ytignmgeiijccoaa
set_option linter.unusedVariables false
set_option linter.unusedSimpArgs false
open Go.ChangeShapes Go.WideShapes Go.ChangeAt Go.RowKit Go.Joins Go.Deep

theorem take_push {ps : List (List Int × Int)} {k : Nat} (h : k < ps.length) : ps.take k ++ [(pt ps k, tm ps k)] = ps.take (k + 1) := by
  have e : (pt ps k, tm ps k) = ps[k] := by simp [pt, tm, h]
  rw [e, List.take_add_one, List.getElem?_eq_getElem h]
  rfl
theorem Outs.next {w wr W w3 : World} {b lo k : Nat} {h : Int} {qs : List (List Int × Int)} {A : Option Addr} {c : Nat} (hx : Ext w wr) (hO : Outs wr b lo h k qs A c) (hE : Ext wr W) (hg : W.grownBy w3 (A.map (·.block))) (hlo : w.heap.size ≤ b) (v : Value) :
    Ext w (w3.setCell ⟨b, 1, none⟩ v) ∧ ∀ b', b' < lo → b' ≠ b → (∀ o, (w3.setCell ⟨b, 1, none⟩ v).cell? ⟨b', o, none⟩ = wr.cell? ⟨b', o, none⟩) ∧ ∀ o, (w3.setCell ⟨b, 1, none⟩ v).frozen? ⟨b', o, none⟩ = wr.frozen? ⟨b', o, none⟩ := by
  have hlt := hO.lt
  have hle := hO.le
  have hz := hE.size
  have hrb : ∀ g, A.map (·.block) = some g → lo ≤ g := fun g hg' => by
    obtain ⟨H, hF⟩ := hO.P.rows
    obtain ⟨cs, hr, _⟩ := hF.row
    exact (hr.row_bd g hg').1
  refine ⟨((hx.trans hE).grown hg (fun j hj => by have := hrb j hj; omega)).set hlo _, fun b' hb' hne => ?_⟩
  have hb : w3.heap[b']? = W.heap[b']? := hg.block b' (by omega) (fun e => by have := hrb b' e.symm; omega)
  refine ⟨fun o => ?_, fun o => ?_⟩
  · rw [World.cell?_setCell_other _ _ _ _ (fun e => by injection e with e1 _ _; exact hne e1.symm), World.cell?_of_block hb]
    exact hE.cells.1 _ o (by omega)
  · have e1 : (w3.setCell ⟨b, 1, none⟩ v).frozen? ⟨b', o, none⟩ = w3.frozen? ⟨b', o, none⟩ := by simp
    rw [e1, ← hE.cells.2 _ o (by omega)]
    unfold World.frozen?
    rw [hb]
set_option maxHeartbeats 4000000 in
theorem copiedR_any (A : Option Addr) (n c : Nat) (ps : List (List Int × Int)) (h : Int) (w : World) (hP : Parts w A n ps) (hn : n ≤ 9) (hl : ∀ i, i < n → (pt ps i).length ≤ 1000) :
    Calls Try.prog 35 #[.agg #[.int .i64 h, .slice A n c]] w (RetR w h n ps) := by
  have HL := Lib.hid hl
  clear hl
  have hlen := hP.len
  go_enter Try.func35, Try.ntmps35
  go_wp2
  go_loopw [12, 5] (fun i _ wr => ∃ (k : Nat) (A1 : Option Addr) (c1 : Nat), k ≤ n ∧ i = .int .i64 k ∧ Ext w wr ∧ (∀ o, wr.frozen? ⟨w.heap.size + 1, o, none⟩ = false) ∧ wr.cell? ⟨w.heap.size + 1, 0, none⟩ = some (.int .i64 0) ∧ wr.cell? ⟨w.heap.size + 1, 1, none⟩ = some (.slice none 0 0) ∧ Outs wr (w.heap.size + 1 + 1) (w.heap.size + 1 + 1 + 1) h k (ps.take k) A1 c1) (fun i _ _ => n - (intOf i).toNat)
  case atStart =>
    refine ⟨0, none, 0, Nat.zero_le _, rfl, (by with_reducible (repeat (first | exact Ext.refl _ | apply Ext.drewN | apply Ext.drew | apply Ext.alloc | (refine Ext.set ?_ (by first | (simp; done) | (simp; omega) | omega) _) | (refine Ext.trans ?_ (by assumption))))), fun o => by go_simp, by go_simp, by go_simp, ⟨by go_simp, by go_simp, fun o => by go_simp, by omega, by simp, ?_⟩⟩
    simpa using PRow.nil _ _ _
  case round =>
    obtain ⟨k, A1, c1, hk, rfl, hx, r2, r0, r1, hO⟩ := hrel
    have hOc0 := hO.c0
    have hOc1 := hO.c1
    have hOf := hO.fz
    have hOle := hO.le
    by_cases hlt : k < n
    · obtain ⟨b, off, hA, hb, hcell⟩ := (hP.ext hx).at_ (by omega)
      subst hA
      obtain ⟨B, m, d, e0, e1, hI⟩ := hcell k hlt
      have hki : (k : Int) < n := by omega
      have hlm := hI.len
      have hmB : m ≤ 1000 := by rw [← hI.len]; exact HL.out k hlt
      clear hcell
      have HT := Lib.hid (take_push (ps := ps) (k := k) (by omega))
      obtain ⟨t, ht⟩ : ∃ t, tm ps k = t := ⟨_, rfl⟩
      rw [ht] at e1 HT
      have g2 : w.heap.size + 1 + 1 < wr.heap.size := by omega
      have g0 : w.heap.size < wr.heap.size := by omega
      have g1 : w.heap.size + 1 < wr.heap.size := by omega
      have HO := Lib.hid hO
      clear hO
      go_wp2
      go_region_law (first | (go_simp; go_at_call 51; (with_reducible refine (copyNumbers_any B m d _ _ (hI.ext (by with_reducible (repeat (first | exact Ext.refl _ | apply Ext.drewN | apply Ext.drew | apply Ext.alloc | (refine Ext.set ?_ (by first | (simp; done) | (simp; omega) | omega) _) | (refine Ext.trans ?_ (by assumption)))))) (by omega)).mono ?_); rintro e w2 ⟨A2, c2, rfl, ho2⟩; have hx2 := ho2.ext; have q2 : wr.heap.size < w2.heap.size := Nat.lt_of_lt_of_le (by first | (simp; done) | (simp; omega) | omega) hx2.size; have q3 : w.heap.size + 1 + 1 < w2.heap.size := Nat.lt_trans g2 q2; have k0 : ∀ o, w2.cell? ⟨wr.heap.size, o, none⟩ = _ := fun o => hx2.cells.1 _ o (by first | (simp; done) | (simp; omega) | omega); have k1 : w2.cell? ⟨w.heap.size + 1 + 1, 1, none⟩ = some (.slice A1 k c1) := hx2.cell (by first | (simp; done) | (simp; omega) | omega) (by go_simp); have hE2 : Ext wr w2 := Ext.trans (by with_reducible (repeat (first | exact Ext.refl _ | apply Ext.drewN | apply Ext.drew | apply Ext.alloc | (refine Ext.set ?_ (by first | (simp; done) | (simp; omega) | omega) _) | (refine Ext.trans ?_ (by assumption))))) hx2; have HX2 := Lib.hid hE2) | (refine stepP (by rfl) _ _ (by rfl) (by rfl) (HO.out.P.ext (Ext.alloc HX2.out _)) (by omega) (by rfl) (heap_alloc_new _ _) (by rfl) (Row.ext (lo := wr.heap.size + 1) (hi := w2.heap.size) ⟨by simpa using ho2.own, fun a ha => (World.ownsRow.lt ho2.own a.block (by rw [ha]; rfl)).2⟩ (Ext.alloc (Ext.refl _) _)) hlm (Nat.le_succ _) (by first | (simp; done) | (simp; omega) | omega) (Nat.le_succ_of_le hOle) (Nat.succ_le_of_lt q2) ?_; intro A3 c3 w3 P3 hg3; obtain ⟨v1, v2, v3⟩ := ((HO.out.ext HX2.out).ext (Ext.alloc (Ext.refl _) _)).push P3 hg3))
      all_goals (obtain ⟨x1, x2⟩ := Outs.next hx HO.out (hE2.alloc _) hg3 (Nat.le_of_lt (by omega)) (.slice A3 (k + 1) c3); obtain ⟨y1, y2⟩ := x2 (w.heap.size + 1) (by omega) (by omega))
      all_goals (rw [HT.out] at v3)
      all_goals (go_wp2; go_roundw)
      all_goals first | exact ⟨k + 1, A3, c3, by omega, by go_num, x1, fun o => (y2 o).trans (r2 o), (y1 0).trans r0, (y1 1).trans r1, v3⟩ | (simp [intOf]; omega)
    · obtain rfl : k = n := by omega
      have htk : ps.take k = ps := List.take_of_length_le (by omega)
      rw [htk] at hO
      have HO := Lib.hid hO
      clear hO
      go_wp2
      refine bodyPost_ret (v := .agg #[.int .i64 h, .slice A1 k c1]) (by simp [results, Try.results35, go_sem, *]) rfl ⟨A1, c1, rfl, ?_, (by with_reducible (repeat (first | exact Ext.refl _ | apply Ext.drewN | apply Ext.drew | apply Ext.alloc | (refine Ext.set ?_ (by first | (simp; done) | (simp; omega) | omega) _) | (refine Ext.trans ?_ (by assumption)))))⟩
      have := (HO.out.P.far (p := ⟨w.heap.size + 1, 0, none⟩) (.inl (by simp)) (.int .i64 h)).far (p := ⟨w.heap.size + 1, 1, none⟩) (.inl (by simp)) (.slice A1 k c1)
      exact this.wide (by omega) (by simp [World.setCell])
end Go.Proofs.Ytignmgeiijccoaa
