/- Cp3 Cp4 in one text (a claim has at most 60 files). No condition but the stated bounds. -/
import Derived.Test.YtbihbhdaenhdoaaGreatCpA
import Derived.Deep.DeepCutAuto
namespace Go.Proofs.YtbihbhdaenhdoaaGreat
set_option linter.unusedVariables false
set_option linter.unusedSimpArgs false
open Go.ChangeShapes Go.WideShapes Go.ChangeAt Go.RowKit Go.Joins Go.Deep

set_option maxRecDepth 100000 in
set_option maxHeartbeats 8000000 in
theorem copied_k3 (A B S P Q : Option Addr) (ca cb cs cp cq : Nat) (w : World) (ns : Nat) (ds : List (Int × Bool)) (hs : Syn w S ns ds) (hn : 1 ≤ ns ∧ ns ≤ 1000) :
    Calls Tryz.prog 22 #[.agg #[.int .i64 3, .slice A 0 ca, .slice B 0 cb, .slice S ns cs, .slice P 0 cp, .slice Q 0 cq]] w (RetN w ⟨3, [], [], ds, [], []⟩) := by
  obtain ⟨iS, hiS⟩ := iSyb
  have HBX : Hid (NBox ((w.alloc (.cells #[.int .i64 3, .slice A 0 ca, .slice B 0 cb, .slice S ns cs, .slice P 0 cp, .slice Q 0 cq] 33)).alloc (.cells #[.int .i64 0, .slice none 0 0, .slice none 0 0, .slice none 0 0, .slice none 0 0, .slice none 0 0] 33)) w.heap.size ⟨3, A, 0, ca, B, 0, cb, S, ns, cs, P, 0, cp, Q, 0, cq⟩) := (NBox.new w ⟨3, A, 0, ca, B, 0, cb, S, ns, cs, P, 0, cp, Q, 0, cq⟩).ext ((Ext.refl _).alloc _)
  have HRX : Hid (Six ((w.alloc (.cells #[.int .i64 3, .slice A 0 ca, .slice B 0 cb, .slice S ns cs, .slice P 0 cp, .slice Q 0 cq] 33)).alloc (.cells #[.int .i64 0, .slice none 0 0, .slice none 0 0, .slice none 0 0, .slice none 0 0, .slice none 0 0] 33)) (w.heap.size + 1)) := by
    have := Six.new (w.alloc (.cells #[.int .i64 3, .slice A 0 ca, .slice B 0 cb, .slice S ns cs, .slice P 0 cp, .slice Q 0 cq] 33)) (.int .i64 0) (.slice none 0 0) (.slice none 0 0) (.slice none 0 0) (.slice none 0 0) (.slice none 0 0) 33
    rw [show (w.alloc (.cells #[.int .i64 3, .slice A 0 ca, .slice B 0 cb, .slice S ns cs, .slice P 0 cp, .slice Q 0 cq] 33)).heap.size = w.heap.size + 1 by simp] at this
    exact this
  go_enter Tryz.func22, Tryz.ntmps22
  go_upto_region 1 with fail
  go_cut [3] (fun s3 wx => ∃ g V, CpB w wx ⟨3, A, 0, ca, B, 0, cb, S, ns, cs, P, 0, cp, Q, 0, cq⟩ s3 g V [] ds [] [])
  case first =>
    go_region_held3 (fun wz => wz.cell? ⟨w.heap.size, 0, none⟩ = some (.int .i64 3) ∧ wz.cell? ⟨w.heap.size, 1, none⟩ = some (.slice A 0 ca) ∧ wz.cell? ⟨w.heap.size, 2, none⟩ = some (.slice B 0 cb) ∧ wz.cell? ⟨w.heap.size, 3, none⟩ = some (.slice S ns cs) ∧ wz.cell? ⟨w.heap.size, 4, none⟩ = some (.slice P 0 cp) ∧ wz.cell? ⟨w.heap.size, 5, none⟩ = some (.slice Q 0 cq)) (exact (HBX.out.ext (show Ext ((w.alloc (.cells #[.int .i64 3, .slice A 0 ca, .slice B 0 cb, .slice S ns cs, .slice P 0 cp, .slice Q 0 cq] 33)).alloc (.cells #[.int .i64 0, .slice none 0 0, .slice none 0 0, .slice none 0 0, .slice none 0 0, .slice none 0 0] 33)) _ from (by with_reducible (repeat (first | exact Ext.refl _ | apply Ext.drewN | apply Ext.drew | apply Ext.alloc | (refine Ext.set ?_ (by first | (simp; done) | (simp; omega) | omega) _) | (refine Ext.trans ?_ (by assumption))))))).six) (first | (go_at_call 57; (with_reducible refine (copyNumbers_any A 0 ca [] _ (Ints.nil _ _) (by omega)).mono ?_); rintro e wa ⟨Aa, ca', rfl, Oa⟩; have hxa := Oa.ext; have Ra := Oa.row; have hz_wa := hxa.size; (try simp at hz_wa); (try (have hq0_wa : w.heap.size + 1 < wa.heap.size := by omega)); (try (have hc0_wa : ∀ o, wa.cell? ⟨w.heap.size + 1, o, none⟩ = _ := fun o => hxa.cells.1 _ o (by first | (simp; done) | (simp; omega) | omega))); (try (have hf0_wa : ∀ o, wa.frozen? ⟨w.heap.size + 1, o, none⟩ = _ := fun o => hxa.cells.2 _ o (by first | (simp; done) | (simp; omega) | omega))); (try (have hq1_wa : w.heap.size + 1 + 1 < wa.heap.size := by omega)); (try (have hc1_wa : ∀ o, wa.cell? ⟨w.heap.size + 1 + 1, o, none⟩ = _ := fun o => hxa.cells.1 _ o (by first | (simp; done) | (simp; omega) | omega))); (try (have hf1_wa : ∀ o, wa.frozen? ⟨w.heap.size + 1 + 1, o, none⟩ = _ := fun o => hxa.cells.2 _ o (by first | (simp; done) | (simp; omega) | omega))); (try (have hq2_wa : w.heap.size + 1 + 1 + 1 < wa.heap.size := by omega)); (try (have hc2_wa : ∀ o, wa.cell? ⟨w.heap.size + 1 + 1 + 1, o, none⟩ = _ := fun o => hxa.cells.1 _ o (by first | (simp; done) | (simp; omega) | omega))); (try (have hf2_wa : ∀ o, wa.frozen? ⟨w.heap.size + 1 + 1 + 1, o, none⟩ = _ := fun o => hxa.cells.2 _ o (by first | (simp; done) | (simp; omega) | omega)))) | ((refine stepS (by rfl) _ _ (by rfl) (by rfl) (hs.ext (by with_reducible (repeat (first | exact Ext.refl _ | apply Ext.drewN | apply Ext.drew | apply Ext.alloc | (refine Ext.set ?_ (by first | (simp; done) | (simp; omega) | omega) _) | (refine Ext.trans ?_ (by assumption)))))) (by rfl) hn ?_); intro As cs' ws Rs hxs; have hz_ws := hxs.size; (try simp at hz_ws); (try (have hq0_ws : w.heap.size + 1 < ws.heap.size := by omega)); (try (have hc0_ws : ∀ o, ws.cell? ⟨w.heap.size + 1, o, none⟩ = _ := fun o => hxs.cells.1 _ o (by first | (simp; done) | (simp; omega) | omega))); (try (have hf0_ws : ∀ o, ws.frozen? ⟨w.heap.size + 1, o, none⟩ = _ := fun o => hxs.cells.2 _ o (by first | (simp; done) | (simp; omega) | omega))); (try (have hq1_ws : w.heap.size + 1 + 1 < ws.heap.size := by omega)); (try (have hc1_ws : ∀ o, ws.cell? ⟨w.heap.size + 1 + 1, o, none⟩ = _ := fun o => hxs.cells.1 _ o (by first | (simp; done) | (simp; omega) | omega))); (try (have hf1_ws : ∀ o, ws.frozen? ⟨w.heap.size + 1 + 1, o, none⟩ = _ := fun o => hxs.cells.2 _ o (by first | (simp; done) | (simp; omega) | omega))); (try (have hq2_ws : w.heap.size + 1 + 1 + 1 < ws.heap.size := by omega)); (try (have hc2_ws : ∀ o, ws.cell? ⟨w.heap.size + 1 + 1 + 1, o, none⟩ = _ := fun o => hxs.cells.1 _ o (by first | (simp; done) | (simp; omega) | omega))); (try (have hf2_ws : ∀ o, ws.frozen? ⟨w.heap.size + 1 + 1 + 1, o, none⟩ = _ := fun o => hxs.cells.2 _ o (by first | (simp; done) | (simp; omega) | omega))); (try (have hq3_ws : wa.heap.size < ws.heap.size := by omega)); (try (have hc3_ws : ∀ o, ws.cell? ⟨wa.heap.size, o, none⟩ = _ := fun o => hxs.cells.1 _ o (by first | (simp; done) | (simp; omega) | omega))); (try (have hf3_ws : ∀ o, ws.frozen? ⟨wa.heap.size, o, none⟩ = _ := fun o => hxs.cells.2 _ o (by first | (simp; done) | (simp; omega) | omega))); (try (have hq4_ws : wa.heap.size + 1 < ws.heap.size := by omega)); (try (have hc4_ws : ∀ o, ws.cell? ⟨wa.heap.size + 1, o, none⟩ = _ := fun o => hxs.cells.1 _ o (by first | (simp; done) | (simp; omega) | omega))); (try (have hf4_ws : ∀ o, ws.frozen? ⟨wa.heap.size + 1, o, none⟩ = _ := fun o => hxs.cells.2 _ o (by first | (simp; done) | (simp; omega) | omega))); (try (have hq5_ws : wa.heap.size + 1 + 1 < ws.heap.size := by omega)); (try (have hc5_ws : ∀ o, ws.cell? ⟨wa.heap.size + 1 + 1, o, none⟩ = _ := fun o => hxs.cells.1 _ o (by first | (simp; done) | (simp; omega) | omega))); (try (have hf5_ws : ∀ o, ws.frozen? ⟨wa.heap.size + 1 + 1, o, none⟩ = _ := fun o => hxs.cells.2 _ o (by first | (simp; done) | (simp; omega) | omega)))) | (go_at_call 58; (with_reducible refine (copied_none P Q cp cq _).mono ?_); rintro e wc ⟨Ac, cc, Bc, dc, rfl, hxc⟩; have hz_wc := hxc.size; (try simp at hz_wc); (try (have hq0_wc : w.heap.size + 1 < wc.heap.size := by omega)); (try (have hc0_wc : ∀ o, wc.cell? ⟨w.heap.size + 1, o, none⟩ = _ := fun o => hxc.cells.1 _ o (by first | (simp; done) | (simp; omega) | omega))); (try (have hf0_wc : ∀ o, wc.frozen? ⟨w.heap.size + 1, o, none⟩ = _ := fun o => hxc.cells.2 _ o (by first | (simp; done) | (simp; omega) | omega))); (try (have hq1_wc : w.heap.size + 1 + 1 < wc.heap.size := by omega)); (try (have hc1_wc : ∀ o, wc.cell? ⟨w.heap.size + 1 + 1, o, none⟩ = _ := fun o => hxc.cells.1 _ o (by first | (simp; done) | (simp; omega) | omega))); (try (have hf1_wc : ∀ o, wc.frozen? ⟨w.heap.size + 1 + 1, o, none⟩ = _ := fun o => hxc.cells.2 _ o (by first | (simp; done) | (simp; omega) | omega))); (try (have hq2_wc : w.heap.size + 1 + 1 + 1 < wc.heap.size := by omega)); (try (have hc2_wc : ∀ o, wc.cell? ⟨w.heap.size + 1 + 1 + 1, o, none⟩ = _ := fun o => hxc.cells.1 _ o (by first | (simp; done) | (simp; omega) | omega))); (try (have hf2_wc : ∀ o, wc.frozen? ⟨w.heap.size + 1 + 1 + 1, o, none⟩ = _ := fun o => hxc.cells.2 _ o (by first | (simp; done) | (simp; omega) | omega))); (try (have hq3_wc : wa.heap.size < wc.heap.size := by omega)); (try (have hc3_wc : ∀ o, wc.cell? ⟨wa.heap.size, o, none⟩ = _ := fun o => hxc.cells.1 _ o (by first | (simp; done) | (simp; omega) | omega))); (try (have hf3_wc : ∀ o, wc.frozen? ⟨wa.heap.size, o, none⟩ = _ := fun o => hxc.cells.2 _ o (by first | (simp; done) | (simp; omega) | omega))); (try (have hq4_wc : wa.heap.size + 1 < wc.heap.size := by omega)); (try (have hc4_wc : ∀ o, wc.cell? ⟨wa.heap.size + 1, o, none⟩ = _ := fun o => hxc.cells.1 _ o (by first | (simp; done) | (simp; omega) | omega))); (try (have hf4_wc : ∀ o, wc.frozen? ⟨wa.heap.size + 1, o, none⟩ = _ := fun o => hxc.cells.2 _ o (by first | (simp; done) | (simp; omega) | omega))); (try (have hq5_wc : wa.heap.size + 1 + 1 < wc.heap.size := by omega)); (try (have hc5_wc : ∀ o, wc.cell? ⟨wa.heap.size + 1 + 1, o, none⟩ = _ := fun o => hxc.cells.1 _ o (by first | (simp; done) | (simp; omega) | omega))); (try (have hf5_wc : ∀ o, wc.frozen? ⟨wa.heap.size + 1 + 1, o, none⟩ = _ := fun o => hxc.cells.2 _ o (by first | (simp; done) | (simp; omega) | omega))); (try (have hq6_wc : ws.heap.size < wc.heap.size := by omega)); (try (have hc6_wc : ∀ o, wc.cell? ⟨ws.heap.size, o, none⟩ = _ := fun o => hxc.cells.1 _ o (by first | (simp; done) | (simp; omega) | omega))); (try (have hf6_wc : ∀ o, wc.frozen? ⟨ws.heap.size, o, none⟩ = _ := fun o => hxc.cells.2 _ o (by first | (simp; done) | (simp; omega) | omega)))))
    all_goals (go_wp2_with fail; go_meet)
    all_goals first
      | (with_reducible refine cpb_new rfl rfl rfl rfl rfl ?_ ?_ ?_ ?_ _ _ ?_ ?_ ?_ rowW_no (rowSW_in (Rs.ext ?_)) passRW_no)
      | (with_reducible refine cpb_set rfl rfl rfl rfl rfl ?_ ?_ ?_ ?_ ?_ ?_ ?_ ?_ (fun i => ?_) ?_ ?_ ?_ _ _ ?_ ?_ ?_ ?_ rowW_no (rowSW_in (Rs.ext ?_)) passRW_no)
    all_goals first
      | (simp; done)
      | (simp; omega)
      | omega
      | (go_simp; done)
      | exact HBX.out.ext (by with_reducible (repeat (first | exact Ext.refl _ | apply Ext.drewN | apply Ext.drew | apply Ext.alloc | (refine Ext.set ?_ (by first | (simp; done) | (simp; omega) | omega) _) | (refine Ext.trans ?_ (by assumption)))))
      | exact HRX.out.ext (by with_reducible (repeat (first | exact Ext.refl _ | apply Ext.drewN | apply Ext.drew | apply Ext.alloc | (refine Ext.set ?_ (by first | (simp; done) | (simp; omega) | omega) _) | (refine Ext.trans ?_ (by assumption)))))
      | exact (by with_reducible (repeat (first | exact Ext.refl _ | apply Ext.drewN | apply Ext.drew | apply Ext.alloc | (refine Ext.set ?_ (by first | (simp; done) | (simp; omega) | omega) _) | (refine Ext.trans ?_ (by assumption)))))
      | (left; simp; done)
      | (left; simp; omega)
      | (right; simp; done)
      | (right; simp; omega)
      | trace_state
  case rest =>
    obtain ⟨g, V, hcut⟩ := hcut
    have HNB := Lib.hid hcut.boxed
    have HRN := Lib.hid hcut.done3
    obtain ⟨vk, A1, n1, c1, B1, m1, d1, S1, q1, e1, P1, p1, f1, Q1, r1, g1⟩ := V
    obtain ⟨hs3, hlo, hk, hna, ⟨hb1, hb2, hb3⟩, hns, hnp, hnq, hbox, hfr, hold, hres, hX, l, h, hl1, hl2, hl3, hl4, ra, rs, rp⟩ := hcut
    dsimp only at *
    subst hs3 hk hna hb1 hb2 hb3 hns hnp hnq
    obtain ⟨ho1, h00, h01, h02, h03, h04, h05⟩ := hold
    obtain ⟨hg1, h10, h11, h12, h13, h14, h15⟩ := hbox
    dsimp only at *
    have hf := hfr.f
    have hfr2 := hres.f
    obtain ⟨u0, rr0⟩ := hres.c 0 (by omega)
    obtain ⟨u1, rr1⟩ := hres.c 1 (by omega)
    obtain ⟨u2, rr2⟩ := hres.c 2 (by omega)
    obtain ⟨u3, rr3⟩ := hres.c 3 (by omega)
    obtain ⟨u4, rr4⟩ := hres.c 4 (by omega)
    obtain ⟨u5, rr5⟩ := hres.c 5 (by omega)
    have hrl := hres.lt
    clear ra rs rp hfr hres
    go_wp2
    go_loop [23] (fun i => i = .int .i64 0) (fun _ => 0)
    case atStart => rfl
    case round =>
      obtain rfl := hrel
      go_wp2
      refine bodyPost_ret (v := (⟨3, A1, 0, c1, none, 0, 0, S1, q1, e1, P1, 0, f1, Q1, 0, g1⟩ : NV).val) ?_ ?_ ?_
      · exact results_not rfl rfl HNB.out
      · rfl
      · exact HRN.out
end Go.Proofs.YtbihbhdaenhdoaaGreat

namespace Go.Proofs.YtbihbhdaenhdoaaGreat
set_option linter.unusedVariables false
set_option linter.unusedSimpArgs false
open Go.ChangeShapes Go.WideShapes Go.ChangeAt Go.RowKit Go.Joins Go.Deep

set_option maxRecDepth 100000 in
set_option maxHeartbeats 8000000 in
theorem copied_k4 (A B S P Q : Option Addr) (ca cb cs cp cq : Nat) (w : World) (np nq : Nat) (da db : List (Int × Bool)) (ha : Thr w P np da) (hb : Thr w Q nq db) (hn : 1 ≤ np ∧ np ≤ 8) (hm : 1 ≤ nq ∧ nq ≤ 8) :
    Calls Tryz.prog 22 #[.agg #[.int .i64 4, .slice A 0 ca, .slice B 0 cb, .slice S 0 cs, .slice P np cp, .slice Q nq cq]] w (RetN w ⟨4, [], [], [], da, db⟩) := by
  obtain ⟨iS, hiS⟩ := iSyb
  have HBX : Hid (NBox ((w.alloc (.cells #[.int .i64 4, .slice A 0 ca, .slice B 0 cb, .slice S 0 cs, .slice P np cp, .slice Q nq cq] 33)).alloc (.cells #[.int .i64 0, .slice none 0 0, .slice none 0 0, .slice none 0 0, .slice none 0 0, .slice none 0 0] 33)) w.heap.size ⟨4, A, 0, ca, B, 0, cb, S, 0, cs, P, np, cp, Q, nq, cq⟩) := (NBox.new w ⟨4, A, 0, ca, B, 0, cb, S, 0, cs, P, np, cp, Q, nq, cq⟩).ext ((Ext.refl _).alloc _)
  have HRX : Hid (Six ((w.alloc (.cells #[.int .i64 4, .slice A 0 ca, .slice B 0 cb, .slice S 0 cs, .slice P np cp, .slice Q nq cq] 33)).alloc (.cells #[.int .i64 0, .slice none 0 0, .slice none 0 0, .slice none 0 0, .slice none 0 0, .slice none 0 0] 33)) (w.heap.size + 1)) := by
    have := Six.new (w.alloc (.cells #[.int .i64 4, .slice A 0 ca, .slice B 0 cb, .slice S 0 cs, .slice P np cp, .slice Q nq cq] 33)) (.int .i64 0) (.slice none 0 0) (.slice none 0 0) (.slice none 0 0) (.slice none 0 0) (.slice none 0 0) 33
    rw [show (w.alloc (.cells #[.int .i64 4, .slice A 0 ca, .slice B 0 cb, .slice S 0 cs, .slice P np cp, .slice Q nq cq] 33)).heap.size = w.heap.size + 1 by simp] at this
    exact this
  go_enter Tryz.func22, Tryz.ntmps22
  go_upto_region 1 with fail
  go_cut [3] (fun s3 wx => ∃ g V, CpB w wx ⟨4, A, 0, ca, B, 0, cb, S, 0, cs, P, np, cp, Q, nq, cq⟩ s3 g V [] [] da db)
  case first =>
    go_region_held3 (fun wz => wz.cell? ⟨w.heap.size, 0, none⟩ = some (.int .i64 4) ∧ wz.cell? ⟨w.heap.size, 1, none⟩ = some (.slice A 0 ca) ∧ wz.cell? ⟨w.heap.size, 2, none⟩ = some (.slice B 0 cb) ∧ wz.cell? ⟨w.heap.size, 3, none⟩ = some (.slice S 0 cs) ∧ wz.cell? ⟨w.heap.size, 4, none⟩ = some (.slice P np cp) ∧ wz.cell? ⟨w.heap.size, 5, none⟩ = some (.slice Q nq cq)) (exact (HBX.out.ext (show Ext ((w.alloc (.cells #[.int .i64 4, .slice A 0 ca, .slice B 0 cb, .slice S 0 cs, .slice P np cp, .slice Q nq cq] 33)).alloc (.cells #[.int .i64 0, .slice none 0 0, .slice none 0 0, .slice none 0 0, .slice none 0 0, .slice none 0 0] 33)) _ from (by with_reducible (repeat (first | exact Ext.refl _ | apply Ext.drewN | apply Ext.drew | apply Ext.alloc | (refine Ext.set ?_ (by first | (simp; done) | (simp; omega) | omega) _) | (refine Ext.trans ?_ (by assumption))))))).six) (first | (go_at_call 57; (with_reducible refine (copyNumbers_any A 0 ca [] _ (Ints.nil _ _) (by omega)).mono ?_); rintro e wa ⟨Aa, ca', rfl, Oa⟩; have hxa := Oa.ext; have Ra := Oa.row; have hz_wa := hxa.size; (try simp at hz_wa); (try (have hq0_wa : w.heap.size + 1 < wa.heap.size := by omega)); (try (have hc0_wa : ∀ o, wa.cell? ⟨w.heap.size + 1, o, none⟩ = _ := fun o => hxa.cells.1 _ o (by first | (simp; done) | (simp; omega) | omega))); (try (have hf0_wa : ∀ o, wa.frozen? ⟨w.heap.size + 1, o, none⟩ = _ := fun o => hxa.cells.2 _ o (by first | (simp; done) | (simp; omega) | omega))); (try (have hq1_wa : w.heap.size + 1 + 1 < wa.heap.size := by omega)); (try (have hc1_wa : ∀ o, wa.cell? ⟨w.heap.size + 1 + 1, o, none⟩ = _ := fun o => hxa.cells.1 _ o (by first | (simp; done) | (simp; omega) | omega))); (try (have hf1_wa : ∀ o, wa.frozen? ⟨w.heap.size + 1 + 1, o, none⟩ = _ := fun o => hxa.cells.2 _ o (by first | (simp; done) | (simp; omega) | omega))); (try (have hq2_wa : w.heap.size + 1 + 1 + 1 < wa.heap.size := by omega)); (try (have hc2_wa : ∀ o, wa.cell? ⟨w.heap.size + 1 + 1 + 1, o, none⟩ = _ := fun o => hxa.cells.1 _ o (by first | (simp; done) | (simp; omega) | omega))); (try (have hf2_wa : ∀ o, wa.frozen? ⟨w.heap.size + 1 + 1 + 1, o, none⟩ = _ := fun o => hxa.cells.2 _ o (by first | (simp; done) | (simp; omega) | omega)))) | (refine stepE (by rfl) _ _ Tryz.underlying28 hiS (by rfl) (by rfl) (by rfl) ?_) | (go_at_call 58; (with_reducible refine (copied_any P Q np cp nq cq da db _ (ha.ext (by with_reducible (repeat (first | exact Ext.refl _ | apply Ext.drewN | apply Ext.drew | apply Ext.alloc | (refine Ext.set ?_ (by first | (simp; done) | (simp; omega) | omega) _) | (refine Ext.trans ?_ (by assumption)))))) (hb.ext (by with_reducible (repeat (first | exact Ext.refl _ | apply Ext.drewN | apply Ext.drew | apply Ext.alloc | (refine Ext.set ?_ (by first | (simp; done) | (simp; omega) | omega) _) | (refine Ext.trans ?_ (by assumption)))))) hn hm).mono ?_); rintro e wc ⟨Ac, cc, Bc, dc, rfl, Rc, hxc⟩; have hz_wc := hxc.size; (try simp at hz_wc); (try (have hq0_wc : w.heap.size + 1 < wc.heap.size := by omega)); (try (have hc0_wc : ∀ o, wc.cell? ⟨w.heap.size + 1, o, none⟩ = _ := fun o => hxc.cells.1 _ o (by first | (simp; done) | (simp; omega) | omega))); (try (have hf0_wc : ∀ o, wc.frozen? ⟨w.heap.size + 1, o, none⟩ = _ := fun o => hxc.cells.2 _ o (by first | (simp; done) | (simp; omega) | omega))); (try (have hq1_wc : w.heap.size + 1 + 1 < wc.heap.size := by omega)); (try (have hc1_wc : ∀ o, wc.cell? ⟨w.heap.size + 1 + 1, o, none⟩ = _ := fun o => hxc.cells.1 _ o (by first | (simp; done) | (simp; omega) | omega))); (try (have hf1_wc : ∀ o, wc.frozen? ⟨w.heap.size + 1 + 1, o, none⟩ = _ := fun o => hxc.cells.2 _ o (by first | (simp; done) | (simp; omega) | omega))); (try (have hq2_wc : w.heap.size + 1 + 1 + 1 < wc.heap.size := by omega)); (try (have hc2_wc : ∀ o, wc.cell? ⟨w.heap.size + 1 + 1 + 1, o, none⟩ = _ := fun o => hxc.cells.1 _ o (by first | (simp; done) | (simp; omega) | omega))); (try (have hf2_wc : ∀ o, wc.frozen? ⟨w.heap.size + 1 + 1 + 1, o, none⟩ = _ := fun o => hxc.cells.2 _ o (by first | (simp; done) | (simp; omega) | omega))); (try (have hq3_wc : wa.heap.size < wc.heap.size := by omega)); (try (have hc3_wc : ∀ o, wc.cell? ⟨wa.heap.size, o, none⟩ = _ := fun o => hxc.cells.1 _ o (by first | (simp; done) | (simp; omega) | omega))); (try (have hf3_wc : ∀ o, wc.frozen? ⟨wa.heap.size, o, none⟩ = _ := fun o => hxc.cells.2 _ o (by first | (simp; done) | (simp; omega) | omega))); (try (have hq4_wc : wa.heap.size + 1 < wc.heap.size := by omega)); (try (have hc4_wc : ∀ o, wc.cell? ⟨wa.heap.size + 1, o, none⟩ = _ := fun o => hxc.cells.1 _ o (by first | (simp; done) | (simp; omega) | omega))); (try (have hf4_wc : ∀ o, wc.frozen? ⟨wa.heap.size + 1, o, none⟩ = _ := fun o => hxc.cells.2 _ o (by first | (simp; done) | (simp; omega) | omega))); (try (have hq5_wc : wa.heap.size + 1 + 1 < wc.heap.size := by omega)); (try (have hc5_wc : ∀ o, wc.cell? ⟨wa.heap.size + 1 + 1, o, none⟩ = _ := fun o => hxc.cells.1 _ o (by first | (simp; done) | (simp; omega) | omega))); (try (have hf5_wc : ∀ o, wc.frozen? ⟨wa.heap.size + 1 + 1, o, none⟩ = _ := fun o => hxc.cells.2 _ o (by first | (simp; done) | (simp; omega) | omega)))))
    all_goals (go_wp2_with fail; go_meet)
    all_goals first
      | (with_reducible refine cpb_new rfl rfl rfl rfl rfl ?_ ?_ ?_ ?_ _ _ ?_ ?_ ?_ rowW_no rowSW_no (passRW_in (Rc.ext ?_)))
      | (with_reducible refine cpb_set rfl rfl rfl rfl rfl ?_ ?_ ?_ ?_ ?_ ?_ ?_ ?_ (fun i => ?_) ?_ ?_ ?_ _ _ ?_ ?_ ?_ ?_ rowW_no rowSW_no (passRW_in (Rc.ext ?_)))
    all_goals first
      | (simp; done)
      | (simp; omega)
      | omega
      | (go_simp; done)
      | exact HBX.out.ext (by with_reducible (repeat (first | exact Ext.refl _ | apply Ext.drewN | apply Ext.drew | apply Ext.alloc | (refine Ext.set ?_ (by first | (simp; done) | (simp; omega) | omega) _) | (refine Ext.trans ?_ (by assumption)))))
      | exact HRX.out.ext (by with_reducible (repeat (first | exact Ext.refl _ | apply Ext.drewN | apply Ext.drew | apply Ext.alloc | (refine Ext.set ?_ (by first | (simp; done) | (simp; omega) | omega) _) | (refine Ext.trans ?_ (by assumption)))))
      | exact (by with_reducible (repeat (first | exact Ext.refl _ | apply Ext.drewN | apply Ext.drew | apply Ext.alloc | (refine Ext.set ?_ (by first | (simp; done) | (simp; omega) | omega) _) | (refine Ext.trans ?_ (by assumption)))))
      | (left; simp; done)
      | (left; simp; omega)
      | (right; simp; done)
      | (right; simp; omega)
      | trace_state
  case rest =>
    obtain ⟨g, V, hcut⟩ := hcut
    have HNB := Lib.hid hcut.boxed
    have HRN := Lib.hid hcut.done4
    obtain ⟨vk, A1, n1, c1, B1, m1, d1, S1, q1, e1, P1, p1, f1, Q1, r1, g1⟩ := V
    obtain ⟨hs3, hlo, hk, hna, ⟨hb1, hb2, hb3⟩, hns, hnp, hnq, hbox, hfr, hold, hres, hX, l, h, hl1, hl2, hl3, hl4, ra, rs, rp⟩ := hcut
    dsimp only at *
    subst hs3 hk hna hb1 hb2 hb3 hns hnp hnq
    obtain ⟨ho1, h00, h01, h02, h03, h04, h05⟩ := hold
    obtain ⟨hg1, h10, h11, h12, h13, h14, h15⟩ := hbox
    dsimp only at *
    have hf := hfr.f
    have hfr2 := hres.f
    obtain ⟨u0, rr0⟩ := hres.c 0 (by omega)
    obtain ⟨u1, rr1⟩ := hres.c 1 (by omega)
    obtain ⟨u2, rr2⟩ := hres.c 2 (by omega)
    obtain ⟨u3, rr3⟩ := hres.c 3 (by omega)
    obtain ⟨u4, rr4⟩ := hres.c 4 (by omega)
    obtain ⟨u5, rr5⟩ := hres.c 5 (by omega)
    have hrl := hres.lt
    clear ra rs rp hfr hres
    go_wp2
    go_loop [23] (fun i => i = .int .i64 0) (fun _ => 0)
    case atStart => rfl
    case round =>
      obtain rfl := hrel
      go_wp2
      refine bodyPost_ret (v := (⟨4, A1, 0, c1, none, 0, 0, S1, 0, e1, P1, p1, f1, Q1, r1, g1⟩ : NV).val) ?_ ?_ ?_
      · exact results_not rfl rfl HNB.out
      · rfl
      · exact HRN.out
end Go.Proofs.YtbihbhdaenhdoaaGreat
