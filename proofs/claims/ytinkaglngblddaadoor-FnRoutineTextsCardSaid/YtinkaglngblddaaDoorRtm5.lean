/- Routines: the reference's copy. No condition but the stated bounds. -/
import Derived.Test.YtinkaglngblddaaDoorRtm4
namespace Go.Proofs.YtinkaglngblddaaDoor
set_option linter.unusedVariables false
set_option linter.unusedSimpArgs false
open Go.ChangeShapes Go.WideShapes Go.ChangeAt Go.RowKit Go.Joins Go.Deep

set_option maxHeartbeats 4000000 in
theorem l19Copy_any (g : Nat) (A : Option Addr) (n c : Nat) (ps : List (List Int × Int)) (h : Int) (w : World) (a0 : w.cell? ⟨g, 0, none⟩ = some (.int .i64 h)) (a1 : w.cell? ⟨g, 1, none⟩ = some (.slice A n c)) (hP : Parts w A n ps) (hn : n ≤ 9) (hl : ∀ i, i < n → (pt ps i).length ≤ 1000) :
    Calls Tryd.prog 43 #[.pointer (some ⟨g, 0, none⟩)] w (RetR w h n ps) := by
  have HL := Lib.hid hl
  clear hl
  have hlen := hP.len
  have hgs := cell_lt a0
  have hgn : g ≠ w.heap.size := by omega
  have hng : w.heap.size ≠ g := by omega
  go_enter Tryd.func43, Tryd.ntmps43
  go_wp2
  go_loopw [4] (fun i wr => ∃ (k : Nat) (A1 : Option Addr) (c1 : Nat), k ≤ n ∧ i = .int .i64 k ∧ Ext w wr ∧ (∀ o, wr.frozen? ⟨w.heap.size, o, none⟩ = false) ∧ wr.cell? ⟨w.heap.size, 0, none⟩ = some (.int .i64 0) ∧ wr.cell? ⟨w.heap.size, 1, none⟩ = some (.slice none 0 0) ∧ Outs wr (w.heap.size + 1) (w.heap.size + 1 + 1) h k (ps.take k) A1 c1) (fun i _ => n - (intOf i).toNat)
  case atStart =>
    refine ⟨0, none, 0, Nat.zero_le _, rfl, (by with_reducible (repeat (first | exact Ext.refl _ | apply Ext.drewN | apply Ext.drew | apply Ext.alloc | (refine Ext.set ?_ (by first | (simp; done) | (simp; omega) | omega) _) | (refine Ext.trans ?_ (by assumption))))), fun o => by go_simp, by go_simp, by go_simp, ⟨by go_simp, by go_simp, fun o => by go_simp, by omega, by simp, ?_⟩⟩
    simpa using PRow.nil _ _ _
  case round =>
    obtain ⟨k, A1, c1, hk, rfl, hx, r2, r0, r1, hO⟩ := hrel
    have hOc0 := hO.c0
    have hOc1 := hO.c1
    have hOf := hO.fz
    have hOle := hO.le
    have b0 : wr.cell? ⟨g, 0, none⟩ = some (.int .i64 h) := hx.cell hgs a0
    have b1 : wr.cell? ⟨g, 1, none⟩ = some (.slice A n c) := hx.cell hgs a1
    have g2 : w.heap.size + 1 < wr.heap.size := by omega
    have g0 : w.heap.size < wr.heap.size := by omega
    have g3 : g < wr.heap.size := by omega
    by_cases hlt : k < n
    · obtain ⟨b, off, hA, hb, hcell⟩ := (hP.ext hx).at_ (by omega)
      subst hA
      obtain ⟨B, m, d, e0, e1, hI⟩ := hcell k hlt
      have hki : (k : Int) < n := by omega
      have hlm := hI.len
      have hmB : m ≤ 1000 := by rw [← hI.len]; exact HL.out k hlt
      clear hcell
      have HT := Lib.hid (take_push (ps := ps) (k := k) (by omega))
      obtain ⟨t, ht⟩ : ∃ t, tm ps k = t := ⟨_, rfl⟩
      rw [ht] at e1 HT
      have HO := Lib.hid hO
      clear hO
      go_wp2
      go_region_law (first | (go_simp; go_at_call 70; (with_reducible refine (l19Own_any b (off + k * 2) B m d (pt ps k) t _ (by first | exact hb | (simp; exact hb)) (by go_simp) (by go_simp) (hI.ext (by with_reducible (repeat (first | exact Ext.refl _ | apply Ext.drewN | apply Ext.drew | apply Ext.alloc | (refine Ext.set ?_ (by first | (simp; done) | (simp; omega) | omega) _) | (refine Ext.trans ?_ (by assumption)))))) (by omega)).mono ?_); rintro e w2 ⟨A2, c2, rfl, R2, hx2⟩; have q2 : wr.heap.size ≤ w2.heap.size := Nat.le_trans (by first | (simp; done) | (simp; omega) | omega) hx2.size; have q3 : w.heap.size + 1 < w2.heap.size := Nat.lt_of_lt_of_le g2 q2; have k1 : w2.cell? ⟨w.heap.size + 1, 1, none⟩ = some (.slice A1 k c1) := hx2.cell (by first | (simp; done) | (simp; omega) | omega) (by go_simp); have hE2 : Ext wr w2 := Ext.trans (by with_reducible (repeat (first | exact Ext.refl _ | apply Ext.drewN | apply Ext.drew | apply Ext.alloc | (refine Ext.set ?_ (by first | (simp; done) | (simp; omega) | omega) _) | (refine Ext.trans ?_ (by assumption))))) hx2; have HX2 := Lib.hid hE2) | (refine stepP (by rfl) _ _ (by rfl) (by rfl) (HO.out.P.ext (Ext.alloc HX2.out _)) (by omega) (by rfl) (heap_alloc_new _ _) (by rfl) (Row.ext (lo := wr.heap.size) (hi := w2.heap.size) (by simpa using R2) (Ext.alloc (Ext.refl _) _)) hlm (Nat.le_refl _) (by first | (simp; done) | (simp; omega) | omega) hOle q2 ?_; intro A3 c3 w3 P3 hg3; obtain ⟨v1, v2, v3⟩ := ((HO.out.ext HX2.out).ext (Ext.alloc (Ext.refl _) _)).push P3 hg3))
      all_goals (obtain ⟨x1, x2⟩ := Outs.next hx HO.out (hE2.alloc _) hg3 (Nat.le_of_lt (by omega)) (.slice A3 (k + 1) c3); obtain ⟨y1, y2⟩ := x2 (w.heap.size) (by omega) (by omega))
      all_goals (rw [HT.out] at v3)
      all_goals (go_wp2; go_roundw)
      all_goals first | exact ⟨k + 1, A3, c3, by omega, by go_num, x1, fun o => (y2 o).trans (r2 o), (y1 0).trans r0, (y1 1).trans r1, v3⟩ | (simp [intOf]; omega)
    · obtain rfl : k = n := by omega
      have htk : ps.take k = ps := List.take_of_length_le (by omega)
      rw [htk] at hO
      have HO := Lib.hid hO
      clear hO
      go_wp2
      refine bodyPost_ret (v := .agg #[.int .i64 h, .slice A1 k c1]) (by simp [results, Tryd.results43, go_sem, *]) rfl ⟨A1, c1, rfl, ?_, (by with_reducible (repeat (first | exact Ext.refl _ | apply Ext.drewN | apply Ext.drew | apply Ext.alloc | (refine Ext.set ?_ (by first | (simp; done) | (simp; omega) | omega) _) | (refine Ext.trans ?_ (by assumption)))))⟩
      have := (HO.out.P.far (p := ⟨w.heap.size, 0, none⟩) (.inl (by show w.heap.size < w.heap.size + 1 + 1; omega)) (.int .i64 h)).far (p := ⟨w.heap.size, 1, none⟩) (.inl (by show w.heap.size < w.heap.size + 1 + 1; omega)) (.slice A1 k c1)
      exact this.wide (by omega) (by simp [World.setCell])
end Go.Proofs.YtinkaglngblddaaDoor
