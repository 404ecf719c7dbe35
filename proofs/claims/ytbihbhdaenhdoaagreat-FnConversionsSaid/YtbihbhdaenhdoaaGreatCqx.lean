/- Cqn Cq1 Cq2 Cq3 in one text (a claim has at most 60 files). No condition but the stated bounds. -/
import Derived.Test.YtbihbhdaenhdoaaGreatCpA
import Derived.Deep.DeepCutAuto
namespace Go.Proofs.YtbihbhdaenhdoaaGreat
set_option linter.unusedVariables false
set_option linter.unusedSimpArgs false
open Go.ChangeShapes Go.WideShapes Go.ChangeAt Go.RowKit Go.Joins Go.Deep

/-- What the copy's own variable holds ahead of the beats. -/
structure CqB (w wx : World) (g0 : Nat) (U : NV) (s : Value) (g : Nat) (V : NV) (dp : List Int) (dm : List (List Int)) (da db : List (Int × Bool)) : Prop where
  s : s = .pointer (some ⟨g, 0, none⟩)
  lo : w.heap.size + 1 ≤ g
  k : V.k = U.k
  e : V.S = none ∧ V.ns = 0 ∧ V.cs = 0
  box : NBox wx g V
  fr : Six wx g
  old : NBox wx g0 U
  res : Six wx w.heap.size
  X : Ext w wx
  rows : ∃ l0 h0 l1 h1 l3 h3, (w.heap.size + 1 ≤ l0 ∧ l0 ≤ h0 ∧ h0 ≤ l1) ∧ (l1 ≤ h1 ∧ h1 ≤ l3) ∧ (l3 ≤ h3 ∧ h3 ≤ wx.heap.size) ∧ (g < l0 ∨ h0 ≤ g) ∧ (g < l1 ∨ h1 ≤ g) ∧ (g < l3 ∨ h3 ≤ g) ∧ RowW wx l0 h0 V.A V.na V.ca dp ∧ LRowW wx l1 h1 V.B V.nb V.cb dm ∧ PassRW wx l3 h3 V.P V.np V.cp V.Q V.nq V.cq da db
theorem lrowW_in {w : World} {lo hi : Nat} {A : Option Addr} {n c : Nat} {L : List (List Int)} (h : LRow w lo hi A n c L) : LRowW w lo hi A n c L := .inl h
theorem cqb_new {w W : World} {g0 : Nat} {U : NV} {k : Int} {A1 : Option Addr} {n1 c1 : Nat} {B1 : Option Addr} {m1 d1 : Nat} {P1 : Option Addr} {p1 f1 : Nat} {Q1 : Option Addr} {r1 g1 : Nat} {dp : List Int} {dm : List (List Int)} {da db : List (Int × Bool)} (hk : k = U.k) (hlo : w.heap.size + 1 ≤ W.heap.size)
    (hold : NBox W g0 U) (hres : Six W w.heap.size) (hX : Ext w W) (l0 h0 l1 h1 l3 h3 : Nat) (b0 : w.heap.size + 1 ≤ l0 ∧ l0 ≤ h0 ∧ h0 ≤ l1) (b1 : l1 ≤ h1 ∧ h1 ≤ l3) (b3 : l3 ≤ h3 ∧ h3 ≤ W.heap.size) (ra : RowW W l0 h0 A1 n1 c1 dp) (rb : LRowW W l1 h1 B1 m1 d1 dm) (rp : PassRW W l3 h3 P1 p1 f1 Q1 r1 g1 da db) :
    ∃ g V, CqB w (W.alloc (.cells #[.int .i64 k, .slice A1 n1 c1, .slice B1 m1 d1, .slice none 0 0, .slice P1 p1 f1, .slice Q1 r1 g1] 33)) g0 U (.pointer (some ⟨W.heap.size, 0, none⟩)) g V dp dm da db :=
  have e := (Ext.refl W).alloc (.cells #[.int .i64 k, .slice A1 n1 c1, .slice B1 m1 d1, .slice none 0 0, .slice P1 p1 f1, .slice Q1 r1 g1] 33)
  ⟨W.heap.size, ⟨k, A1, n1, c1, B1, m1, d1, none, 0, 0, P1, p1, f1, Q1, r1, g1⟩, rfl, hlo, hk, ⟨rfl, rfl, rfl⟩, NBox.new W ⟨k, A1, n1, c1, B1, m1, d1, none, 0, 0, P1, p1, f1, Q1, r1, g1⟩, Six.new W _ _ _ _ _ _ _, hold.ext e, hres.ext e, hX.trans e, l0, h0, l1, h1, l3, h3, b0, b1, ⟨b3.1, by have := e.size; omega⟩, .inr (by omega), .inr (by omega), .inr (by omega), ra.ext e, rb.ext e, rp.ext e⟩
theorem cqb_set {w W : World} {g0 : Nat} {U : NV} {g : Nat} {k : Int} {A1 : Option Addr} {n1 c1 : Nat} {B1 : Option Addr} {m1 d1 : Nat} {P1 : Option Addr} {p1 f1 : Nat} {Q1 : Option Addr} {r1 g1 : Nat} {dp : List Int} {dm : List (List Int)} {da db : List (Int × Bool)} (hk : k = U.k) (hlo : w.heap.size + 1 ≤ g) (hgs : g < W.heap.size)
    (z0 : W.cell? ⟨g, 0, none⟩ = some (.int .i64 0)) (z1 : W.cell? ⟨g, 1, none⟩ = some (.slice none 0 0)) (z2 : W.cell? ⟨g, 2, none⟩ = some (.slice none 0 0)) (z3 : W.cell? ⟨g, 3, none⟩ = some (.slice none 0 0)) (z4 : W.cell? ⟨g, 4, none⟩ = some (.slice none 0 0)) (z5 : W.cell? ⟨g, 5, none⟩ = some (.slice none 0 0)) (zf : ∀ i, W.frozen? ⟨g, i, none⟩ = false)
    (hold : NBox W g0 U) (hg0 : g0 < w.heap.size) (hres : Six W w.heap.size) (hX : Ext w W) (l0 h0 l1 h1 l3 h3 : Nat) (b0 : w.heap.size + 1 ≤ l0 ∧ l0 ≤ h0 ∧ h0 ≤ l1) (b1 : l1 ≤ h1 ∧ h1 ≤ l3) (b3 : l3 ≤ h3 ∧ h3 ≤ W.heap.size) (c0 : g < l0 ∨ h0 ≤ g) (c1' : g < l1 ∨ h1 ≤ g) (c3 : g < l3 ∨ h3 ≤ g) (ra : RowW W l0 h0 A1 n1 c1 dp) (rb : LRowW W l1 h1 B1 m1 d1 dm) (rp : PassRW W l3 h3 P1 p1 f1 Q1 r1 g1 da db) :
    ∃ g' V, CqB w ((((((W.setCell ⟨g, 0, none⟩ (.int .i64 k)).setCell ⟨g, 1, none⟩ (.slice A1 n1 c1)).setCell ⟨g, 2, none⟩ (.slice B1 m1 d1)).setCell ⟨g, 3, none⟩ (.slice none 0 0)).setCell ⟨g, 4, none⟩ (.slice P1 p1 f1)).setCell ⟨g, 5, none⟩ (.slice Q1 r1 g1)) g0 U (.pointer (some ⟨g, 0, none⟩)) g' V dp dm da db := by
  have hs := sto_size W g ⟨k, A1, n1, c1, B1, m1, d1, none, 0, 0, P1, p1, f1, Q1, r1, g1⟩
  refine ⟨g, ⟨k, A1, n1, c1, B1, m1, d1, none, 0, 0, P1, p1, f1, Q1, r1, g1⟩, ?_⟩
  show CqB w (sto W g ⟨k, A1, n1, c1, B1, m1, d1, none, 0, 0, P1, p1, f1, Q1, r1, g1⟩) g0 U (.pointer (some ⟨g, 0, none⟩)) g ⟨k, A1, n1, c1, B1, m1, d1, none, 0, 0, P1, p1, f1, Q1, r1, g1⟩ dp dm da db
  have hsx := six_of hgs z0 z1 z2 z3 z4 z5 zf
  refine ⟨rfl, hlo, hk, ⟨rfl, rfl, rfl⟩, sto_box hsx _, sto_six hsx g _, sto_far hold (by omega) _, sto_six hres g _, sto_ext hX (by omega) _, l0, h0, l1, h1, l3, h3, b0, b1, ⟨b3.1, by rw [hs]; exact b3.2⟩, c0, c1', c3, ra.held (sto_kept W g _) (by omega), rb.held (sto_kept W g _) (by omega), rp.held (sto_kept W g _) (by omega)⟩
theorem RetN.ext {w W W' : World} {D : ND} {e : Ending} (h : RetN w D e W) (k : Ext W W') : RetN w D e W' := by
  obtain ⟨V, h1, h2, h3⟩ := h
  exact ⟨V, h1, (h2.ext k).wide (Nat.le_refl _) k.size, h3.trans k⟩
/-- The beats are stored, and the copy is handed back. -/
theorem CqB.fin {w wx W : World} {g0 : Nat} {U : NV} {s : Value} {g : Nat} {V : NV} {dp : List Int} {dm : List (List Int)} {da db : List (Int × Bool)} {ds : List (Int × Bool)} (h : CqB w wx g0 U s g V dp dm da db) (hx : Ext wx W) {S5 : Option Addr} {n5 e5 : Nat} (l2 h2 : Nat) (b2 : wx.heap.size ≤ l2 ∧ l2 ≤ h2 ∧ h2 ≤ W.heap.size) (rs : RowSW W l2 h2 S5 n5 e5 ds) :
    Six (W.setCell ⟨g, 3, none⟩ (.slice S5 n5 e5)) w.heap.size ∧ NBox (W.setCell ⟨g, 3, none⟩ (.slice S5 n5 e5)) g ⟨V.k, V.A, V.na, V.ca, V.B, V.nb, V.cb, S5, n5, e5, V.P, V.np, V.cp, V.Q, V.nq, V.cq⟩ ∧
    RetN w ⟨U.k, dp, dm, ds, da, db⟩ (.returned (NV.mk V.k V.A V.na V.ca V.B V.nb V.cb S5 n5 e5 V.P V.np V.cp V.Q V.nq V.cq).val) (sto (W.setCell ⟨g, 3, none⟩ (.slice S5 n5 e5)) w.heap.size (NV.mk V.k V.A V.na V.ca V.B V.nb V.cb S5 n5 e5 V.P V.np V.cp V.Q V.nq V.cq)) := by
  obtain ⟨l0, h0, l1, h1, l3, h3, b0, b1, b3, c0, c1, c3, ra, rb, rp⟩ := h.rows
  have hlo := h.lo
  have hgl := h.box.lt
  have m1 := h.box.ext hx
  have o : ∀ i, 3 ≠ i → (⟨g, 3, none⟩ : Addr) ≠ ⟨g, i, none⟩ := fun i h => off_ne h
  have hX := h.X.trans hx
  have hXs := hX.set (p := ⟨g, 3, none⟩) (by show w.heap.size ≤ g; omega) (.slice S5 n5 e5)
  have hsx := (h.res.ext hx).set ⟨g, 3, none⟩ (.slice S5 n5 e5)
  have hz := sto_size (W.setCell ⟨g, 3, none⟩ (.slice S5 n5 e5)) w.heap.size (NV.mk V.k V.A V.na V.ca V.B V.nb V.cb S5 n5 e5 V.P V.np V.cp V.Q V.nq V.cq)
  have hw : (W.setCell ⟨g, 3, none⟩ (.slice S5 n5 e5)).heap.size = W.heap.size := by simp [World.setCell]
  have kp : Kept g (g + 1) W (W.setCell ⟨g, 3, none⟩ (.slice S5 n5 e5)) := Kept.set (Kept.of_ext (Ext.refl _)) (by simp) _
  have ks := sto_kept (W.setCell ⟨g, 3, none⟩ (.slice S5 n5 e5)) w.heap.size (NV.mk V.k V.A V.na V.ca V.B V.nb V.cb S5 n5 e5 V.P V.np V.cp V.Q V.nq V.cq)
  refine ⟨hsx, ?_, _, rfl, ⟨h.k, l0, h0, l1, h1, l2, h2, l3, h3, ?_, ((ra.ext hx).held kp (by omega)).held ks (by omega), ((rb.ext hx).held kp (by omega)).held ks (by omega), (rs.held kp (by omega)).held ks (by omega), ((rp.ext hx).held kp (by omega)).held ks (by omega)⟩, sto_ext hXs (Nat.le_refl _) _⟩
  · exact ⟨by rw [hw]; exact m1.lt, cell_oth (o 0 (by omega)) m1.c0, cell_oth (o 1 (by omega)) m1.c1, cell_oth (o 2 (by omega)) m1.c2, cell_same m1.c3, cell_oth (o 4 (by omega)) m1.c4, cell_oth (o 5 (by omega)) m1.c5⟩
  · rw [hz, hw]
    exact ⟨by omega, by omega, by omega, by omega, by omega, by omega, by omega, by omega, by omega, by omega⟩
end Go.Proofs.YtbihbhdaenhdoaaGreat

namespace Go.Proofs.YtbihbhdaenhdoaaGreat
set_option linter.unusedVariables false
set_option linter.unusedSimpArgs false
open Go.ChangeShapes Go.WideShapes Go.ChangeAt Go.RowKit Go.Joins Go.Deep

set_option maxRecDepth 100000 in
set_option maxHeartbeats 8000000 in
theorem l07Copy_1 (g0 : Nat) (k : Int) (A B S P Q : Option Addr) (na ca nb cb cs cp cq : Nat) (w : World) (dp : List Int) (dm : List (List Int)) (hp : Ints w A na dp) (hm : Lists w B nb dm) (hna : na ≤ 12) (hnb : nb ≤ 12) (hL : ∀ i, i < nb → (ll dm i).length ≤ 1000000) (hB : NBox w g0 ⟨k, A, na, ca, B, nb, cb, S, 0, cs, P, 0, cp, Q, 0, cq⟩) :
    Calls Tryz.prog 30 #[.pointer (some ⟨g0, 0, none⟩)] w (RetN w ⟨k, dp, dm, [], [], []⟩) := by
  obtain ⟨iS, hiS⟩ := iSyb
  have hg0 := hB.lt
  have HLL := Lib.hid hL
  have HBX := Lib.hid hB
  have HMB : Hid (MBox w g0 2 B nb cb) := ⟨hg0, hB.c2⟩
  have HPB : Hid (PBoxO w g0 4 P 0 cp Q 0 cq) := ⟨hg0, hB.c4, hB.c5⟩
  have HRX : Hid (Six (w.alloc (.cells #[.int .i64 0, .slice none 0 0, .slice none 0 0, .slice none 0 0, .slice none 0 0, .slice none 0 0] 33)) w.heap.size) := Six.new w _ _ _ _ _ _ _
  obtain ⟨-, s0, s1, s2, s3, s4, s5⟩ := hB
  dsimp only at s0 s1 s2 s3 s4 s5
  clear hL
  go_enter Tryz.func30, Tryz.ntmps30
  go_upto_region 1 with fail
  go_cut [3] (fun s3 wx => ∃ g V, CqB w wx g0 ⟨k, A, na, ca, B, nb, cb, S, 0, cs, P, 0, cp, Q, 0, cq⟩ s3 g V dp dm [] [])
  case first =>
    go_region_held3 (fun wz => wz.cell? ⟨g0, 0, none⟩ = some (.int .i64 k) ∧ wz.cell? ⟨g0, 1, none⟩ = some (.slice A na ca) ∧ wz.cell? ⟨g0, 2, none⟩ = some (.slice B nb cb) ∧ wz.cell? ⟨g0, 3, none⟩ = some (.slice S 0 cs) ∧ wz.cell? ⟨g0, 4, none⟩ = some (.slice P 0 cp) ∧ wz.cell? ⟨g0, 5, none⟩ = some (.slice Q 0 cq)) (exact (HBX.out.ext (show Ext w _ from (by with_reducible (repeat (first | exact Ext.refl _ | apply Ext.drewN | apply Ext.drew | apply Ext.alloc | (refine Ext.set ?_ (by first | (simp; done) | (simp; omega) | omega) _) | (refine Ext.trans ?_ (by assumption))))))).six) (first | (go_at_call 70; (with_reducible refine (l00Own_any A na ca dp _ (hp.ext (by with_reducible (repeat (first | exact Ext.refl _ | apply Ext.drewN | apply Ext.drew | apply Ext.alloc | (refine Ext.set ?_ (by first | (simp; done) | (simp; omega) | omega) _) | (refine Ext.trans ?_ (by assumption)))))) (by omega)).mono ?_); rintro e wa ⟨Aa, ca', rfl, Oa⟩; have hxa := Oa.ext; have Ra := Oa.row; have hz_wa := hxa.size; (try simp at hz_wa); (try (have hq0_wa : w.heap.size < wa.heap.size := by omega)); (try (have hc0_wa : ∀ o, wa.cell? ⟨w.heap.size, o, none⟩ = _ := fun o => hxa.cells.1 _ o (by first | (simp; done) | (simp; omega) | omega))); (try (have hf0_wa : ∀ o, wa.frozen? ⟨w.heap.size, o, none⟩ = _ := fun o => hxa.cells.2 _ o (by first | (simp; done) | (simp; omega) | omega))); (try (have hq1_wa : w.heap.size + 1 < wa.heap.size := by omega)); (try (have hc1_wa : ∀ o, wa.cell? ⟨w.heap.size + 1, o, none⟩ = _ := fun o => hxa.cells.1 _ o (by first | (simp; done) | (simp; omega) | omega))); (try (have hf1_wa : ∀ o, wa.frozen? ⟨w.heap.size + 1, o, none⟩ = _ := fun o => hxa.cells.2 _ o (by first | (simp; done) | (simp; omega) | omega)))) | (go_at_call 71; (with_reducible refine (l04Own_any g0 2 B nb cb dm _ (HMB.out.ext (by with_reducible (repeat (first | exact Ext.refl _ | apply Ext.drewN | apply Ext.drew | apply Ext.alloc | (refine Ext.set ?_ (by first | (simp; done) | (simp; omega) | omega) _) | (refine Ext.trans ?_ (by assumption)))))) (hm.ext (by with_reducible (repeat (first | exact Ext.refl _ | apply Ext.drewN | apply Ext.drew | apply Ext.alloc | (refine Ext.set ?_ (by first | (simp; done) | (simp; omega) | omega) _) | (refine Ext.trans ?_ (by assumption)))))) (by omega) HLL.out).mono ?_); rintro e wb ⟨Ab, cb', rfl, Rb, hxb⟩; have hz_wb := hxb.size; (try simp at hz_wb); (try (have hq0_wb : w.heap.size < wb.heap.size := by omega)); (try (have hc0_wb : ∀ o, wb.cell? ⟨w.heap.size, o, none⟩ = _ := fun o => hxb.cells.1 _ o (by first | (simp; done) | (simp; omega) | omega))); (try (have hf0_wb : ∀ o, wb.frozen? ⟨w.heap.size, o, none⟩ = _ := fun o => hxb.cells.2 _ o (by first | (simp; done) | (simp; omega) | omega))); (try (have hq1_wb : w.heap.size + 1 < wb.heap.size := by omega)); (try (have hc1_wb : ∀ o, wb.cell? ⟨w.heap.size + 1, o, none⟩ = _ := fun o => hxb.cells.1 _ o (by first | (simp; done) | (simp; omega) | omega))); (try (have hf1_wb : ∀ o, wb.frozen? ⟨w.heap.size + 1, o, none⟩ = _ := fun o => hxb.cells.2 _ o (by first | (simp; done) | (simp; omega) | omega))); (try (have hq2_wb : wa.heap.size < wb.heap.size := by omega)); (try (have hc2_wb : ∀ o, wb.cell? ⟨wa.heap.size, o, none⟩ = _ := fun o => hxb.cells.1 _ o (by first | (simp; done) | (simp; omega) | omega))); (try (have hf2_wb : ∀ o, wb.frozen? ⟨wa.heap.size, o, none⟩ = _ := fun o => hxb.cells.2 _ o (by first | (simp; done) | (simp; omega) | omega)))) | (go_at_call 72; (with_reducible refine (l06Own_none g0 4 P Q cp cq _ (HPB.out.ext (by with_reducible (repeat (first | exact Ext.refl _ | apply Ext.drewN | apply Ext.drew | apply Ext.alloc | (refine Ext.set ?_ (by first | (simp; done) | (simp; omega) | omega) _) | (refine Ext.trans ?_ (by assumption))))))).mono ?_); rintro e wc' ⟨Ac, cc, Bc, dc, rfl, hxc⟩; have hz_wc' := hxc.size; (try simp at hz_wc'); (try (have hq0_wc' : w.heap.size < wc'.heap.size := by omega)); (try (have hc0_wc' : ∀ o, wc'.cell? ⟨w.heap.size, o, none⟩ = _ := fun o => hxc.cells.1 _ o (by first | (simp; done) | (simp; omega) | omega))); (try (have hf0_wc' : ∀ o, wc'.frozen? ⟨w.heap.size, o, none⟩ = _ := fun o => hxc.cells.2 _ o (by first | (simp; done) | (simp; omega) | omega))); (try (have hq1_wc' : w.heap.size + 1 < wc'.heap.size := by omega)); (try (have hc1_wc' : ∀ o, wc'.cell? ⟨w.heap.size + 1, o, none⟩ = _ := fun o => hxc.cells.1 _ o (by first | (simp; done) | (simp; omega) | omega))); (try (have hf1_wc' : ∀ o, wc'.frozen? ⟨w.heap.size + 1, o, none⟩ = _ := fun o => hxc.cells.2 _ o (by first | (simp; done) | (simp; omega) | omega))); (try (have hq2_wc' : wa.heap.size < wc'.heap.size := by omega)); (try (have hc2_wc' : ∀ o, wc'.cell? ⟨wa.heap.size, o, none⟩ = _ := fun o => hxc.cells.1 _ o (by first | (simp; done) | (simp; omega) | omega))); (try (have hf2_wc' : ∀ o, wc'.frozen? ⟨wa.heap.size, o, none⟩ = _ := fun o => hxc.cells.2 _ o (by first | (simp; done) | (simp; omega) | omega))); (try (have hq3_wc' : wb.heap.size < wc'.heap.size := by omega)); (try (have hc3_wc' : ∀ o, wc'.cell? ⟨wb.heap.size, o, none⟩ = _ := fun o => hxc.cells.1 _ o (by first | (simp; done) | (simp; omega) | omega))); (try (have hf3_wc' : ∀ o, wc'.frozen? ⟨wb.heap.size, o, none⟩ = _ := fun o => hxc.cells.2 _ o (by first | (simp; done) | (simp; omega) | omega)))))
    all_goals (go_wp2_with fail; go_meet)
    all_goals first
      | (with_reducible refine cqb_new rfl ?_ ?_ ?_ ?_ _ _ _ _ wb.heap.size wb.heap.size ⟨?_, ?_, ?_⟩ ⟨?_, ?_⟩ ⟨?_, ?_⟩ (rowW_in (Ra.ext ?_)) (lrowW_in (Rb.ext ?_)) passRW_no)
      | (with_reducible refine cqb_set rfl ?_ ?_ ?_ ?_ ?_ ?_ ?_ ?_ (fun i => ?_) ?_ hg0 ?_ ?_ _ _ _ _ wb.heap.size wb.heap.size ⟨?_, ?_, ?_⟩ ⟨?_, ?_⟩ ⟨?_, ?_⟩ ?_ ?_ ?_ (rowW_in (Ra.ext ?_)) (lrowW_in (Rb.ext ?_)) passRW_no)
    all_goals first
      | (simp; done)
      | (simp; omega)
      | omega
      | (go_simp; done)
      | exact HBX.out.ext (by with_reducible (repeat (first | exact Ext.refl _ | apply Ext.drewN | apply Ext.drew | apply Ext.alloc | (refine Ext.set ?_ (by first | (simp; done) | (simp; omega) | omega) _) | (refine Ext.trans ?_ (by assumption)))))
      | exact HRX.out.ext (by with_reducible (repeat (first | exact Ext.refl _ | apply Ext.drewN | apply Ext.drew | apply Ext.alloc | (refine Ext.set ?_ (by first | (simp; done) | (simp; omega) | omega) _) | (refine Ext.trans ?_ (by assumption)))))
      | exact (by with_reducible (repeat (first | exact Ext.refl _ | apply Ext.drewN | apply Ext.drew | apply Ext.alloc | (refine Ext.set ?_ (by first | (simp; done) | (simp; omega) | omega) _) | (refine Ext.trans ?_ (by assumption)))))
      | (left; simp; done)
      | (left; simp; omega)
      | (right; simp; done)
      | (right; simp; omega)
      | trace_state
  case rest =>
    obtain ⟨g, V, hcut⟩ := hcut
    have HC0 := Lib.hid hcut
    obtain ⟨vk, A1, n1, c1, B1, m1, d1, S1, q1, e1, P1, p1, f1, Q1, r1, g1⟩ := V
    obtain ⟨hs3, hlo, hk, ⟨he1, he2, he3⟩, hbox, hfr, hold, hres, hX, -⟩ := hcut
    dsimp only at *
    subst hs3 hk he1 he2 he3
    have HC := HC0
    obtain ⟨ho1, h00, h01, h02, h03, h04, h05⟩ := hold
    obtain ⟨hg1, h10, h11, h12, h13, h14, h15⟩ := hbox
    dsimp only at *
    have hf := hfr.f
    have hfr2 := hres.f
    obtain ⟨u0, rr0⟩ := hres.c 0 (by omega)
    obtain ⟨u1, rr1⟩ := hres.c 1 (by omega)
    obtain ⟨u2, rr2⟩ := hres.c 2 (by omega)
    obtain ⟨u3, rr3⟩ := hres.c 3 (by omega)
    obtain ⟨u4, rr4⟩ := hres.c 4 (by omega)
    obtain ⟨u5, rr5⟩ := hres.c 5 (by omega)
    have hrl := hres.lt
    clear s0 s1 s2 s3 s4 s5
    go_wp2_with (at_builtin; refine appE rfl _ _ Tryz.underlying28 hiS rfl rfl rfl ?_; have hE5 : Ext wc (wc.alloc (.cells #[] 102)) := (Ext.refl _).alloc _; have HF := Lib.hid (HC.out.fin (Ext.refl wc) wc.heap.size wc.heap.size ⟨Nat.le_refl _, Nat.le_refl _, Nat.le_refl _⟩ (rowSW_no (A := some ⟨wc.heap.size, 0, none⟩) (c := 0))))
    refine bodyPost_ret (v := (⟨vk, A1, n1, c1, B1, m1, d1, some ⟨wc.heap.size, 0, none⟩, 0, 0, P1, p1, f1, Q1, r1, g1⟩ : NV).val) ?_ ?_ ?_
    · exact results_not rfl rfl ((sto_box HF.out.1 (⟨vk, A1, n1, c1, B1, m1, d1, some ⟨wc.heap.size, 0, none⟩, 0, 0, P1, p1, f1, Q1, r1, g1⟩ : NV)).ext ((Ext.refl _).alloc (.cells #[] 102)))
    · rfl
    · exact HF.out.2.2.ext ((Ext.refl _).alloc (.cells #[] 102))
end Go.Proofs.YtbihbhdaenhdoaaGreat

namespace Go.Proofs.YtbihbhdaenhdoaaGreat
set_option linter.unusedVariables false
set_option linter.unusedSimpArgs false
open Go.ChangeShapes Go.WideShapes Go.ChangeAt Go.RowKit Go.Joins Go.Deep

set_option maxRecDepth 100000 in
set_option maxHeartbeats 8000000 in
theorem l07Copy_2 (g0 : Nat) (k : Int) (A B S P Q : Option Addr) (na ca nb cb cs cp cq : Nat) (w : World) (dp : List Int) (dm : List (List Int)) (hp : Ints w A na dp) (hm : Lists w B nb dm) (hna : na ≤ 12) (hnb : nb ≤ 12) (hL : ∀ i, i < nb → (ll dm i).length ≤ 1000000) (ns : Nat) (ds : List (Int × Bool)) (hs : Syn w S ns ds) (hns : 1 ≤ ns ∧ ns ≤ 1000) (hB : NBox w g0 ⟨k, A, na, ca, B, nb, cb, S, ns, cs, P, 0, cp, Q, 0, cq⟩) :
    Calls Tryz.prog 30 #[.pointer (some ⟨g0, 0, none⟩)] w (RetN w ⟨k, dp, dm, ds, [], []⟩) := by
  obtain ⟨iS, hiS⟩ := iSyb
  have hg0 := hB.lt
  have HLL := Lib.hid hL
  have HBX := Lib.hid hB
  have HMB : Hid (MBox w g0 2 B nb cb) := ⟨hg0, hB.c2⟩
  have HPB : Hid (PBoxO w g0 4 P 0 cp Q 0 cq) := ⟨hg0, hB.c4, hB.c5⟩
  have HRX : Hid (Six (w.alloc (.cells #[.int .i64 0, .slice none 0 0, .slice none 0 0, .slice none 0 0, .slice none 0 0, .slice none 0 0] 33)) w.heap.size) := Six.new w _ _ _ _ _ _ _
  obtain ⟨-, s0, s1, s2, s3, s4, s5⟩ := hB
  dsimp only at s0 s1 s2 s3 s4 s5
  clear hL
  go_enter Tryz.func30, Tryz.ntmps30
  go_upto_region 1 with fail
  go_cut [3] (fun s3 wx => ∃ g V, CqB w wx g0 ⟨k, A, na, ca, B, nb, cb, S, ns, cs, P, 0, cp, Q, 0, cq⟩ s3 g V dp dm [] [])
  case first =>
    go_region_held3 (fun wz => wz.cell? ⟨g0, 0, none⟩ = some (.int .i64 k) ∧ wz.cell? ⟨g0, 1, none⟩ = some (.slice A na ca) ∧ wz.cell? ⟨g0, 2, none⟩ = some (.slice B nb cb) ∧ wz.cell? ⟨g0, 3, none⟩ = some (.slice S ns cs) ∧ wz.cell? ⟨g0, 4, none⟩ = some (.slice P 0 cp) ∧ wz.cell? ⟨g0, 5, none⟩ = some (.slice Q 0 cq)) (exact (HBX.out.ext (show Ext w _ from (by with_reducible (repeat (first | exact Ext.refl _ | apply Ext.drewN | apply Ext.drew | apply Ext.alloc | (refine Ext.set ?_ (by first | (simp; done) | (simp; omega) | omega) _) | (refine Ext.trans ?_ (by assumption))))))).six) (first | (go_at_call 70; (with_reducible refine (l00Own_any A na ca dp _ (hp.ext (by with_reducible (repeat (first | exact Ext.refl _ | apply Ext.drewN | apply Ext.drew | apply Ext.alloc | (refine Ext.set ?_ (by first | (simp; done) | (simp; omega) | omega) _) | (refine Ext.trans ?_ (by assumption)))))) (by omega)).mono ?_); rintro e wa ⟨Aa, ca', rfl, Oa⟩; have hxa := Oa.ext; have Ra := Oa.row; have hz_wa := hxa.size; (try simp at hz_wa); (try (have hq0_wa : w.heap.size < wa.heap.size := by omega)); (try (have hc0_wa : ∀ o, wa.cell? ⟨w.heap.size, o, none⟩ = _ := fun o => hxa.cells.1 _ o (by first | (simp; done) | (simp; omega) | omega))); (try (have hf0_wa : ∀ o, wa.frozen? ⟨w.heap.size, o, none⟩ = _ := fun o => hxa.cells.2 _ o (by first | (simp; done) | (simp; omega) | omega))); (try (have hq1_wa : w.heap.size + 1 < wa.heap.size := by omega)); (try (have hc1_wa : ∀ o, wa.cell? ⟨w.heap.size + 1, o, none⟩ = _ := fun o => hxa.cells.1 _ o (by first | (simp; done) | (simp; omega) | omega))); (try (have hf1_wa : ∀ o, wa.frozen? ⟨w.heap.size + 1, o, none⟩ = _ := fun o => hxa.cells.2 _ o (by first | (simp; done) | (simp; omega) | omega)))) | (go_at_call 71; (with_reducible refine (l04Own_any g0 2 B nb cb dm _ (HMB.out.ext (by with_reducible (repeat (first | exact Ext.refl _ | apply Ext.drewN | apply Ext.drew | apply Ext.alloc | (refine Ext.set ?_ (by first | (simp; done) | (simp; omega) | omega) _) | (refine Ext.trans ?_ (by assumption)))))) (hm.ext (by with_reducible (repeat (first | exact Ext.refl _ | apply Ext.drewN | apply Ext.drew | apply Ext.alloc | (refine Ext.set ?_ (by first | (simp; done) | (simp; omega) | omega) _) | (refine Ext.trans ?_ (by assumption)))))) (by omega) HLL.out).mono ?_); rintro e wb ⟨Ab, cb', rfl, Rb, hxb⟩; have hz_wb := hxb.size; (try simp at hz_wb); (try (have hq0_wb : w.heap.size < wb.heap.size := by omega)); (try (have hc0_wb : ∀ o, wb.cell? ⟨w.heap.size, o, none⟩ = _ := fun o => hxb.cells.1 _ o (by first | (simp; done) | (simp; omega) | omega))); (try (have hf0_wb : ∀ o, wb.frozen? ⟨w.heap.size, o, none⟩ = _ := fun o => hxb.cells.2 _ o (by first | (simp; done) | (simp; omega) | omega))); (try (have hq1_wb : w.heap.size + 1 < wb.heap.size := by omega)); (try (have hc1_wb : ∀ o, wb.cell? ⟨w.heap.size + 1, o, none⟩ = _ := fun o => hxb.cells.1 _ o (by first | (simp; done) | (simp; omega) | omega))); (try (have hf1_wb : ∀ o, wb.frozen? ⟨w.heap.size + 1, o, none⟩ = _ := fun o => hxb.cells.2 _ o (by first | (simp; done) | (simp; omega) | omega))); (try (have hq2_wb : wa.heap.size < wb.heap.size := by omega)); (try (have hc2_wb : ∀ o, wb.cell? ⟨wa.heap.size, o, none⟩ = _ := fun o => hxb.cells.1 _ o (by first | (simp; done) | (simp; omega) | omega))); (try (have hf2_wb : ∀ o, wb.frozen? ⟨wa.heap.size, o, none⟩ = _ := fun o => hxb.cells.2 _ o (by first | (simp; done) | (simp; omega) | omega)))) | (go_at_call 72; (with_reducible refine (l06Own_none g0 4 P Q cp cq _ (HPB.out.ext (by with_reducible (repeat (first | exact Ext.refl _ | apply Ext.drewN | apply Ext.drew | apply Ext.alloc | (refine Ext.set ?_ (by first | (simp; done) | (simp; omega) | omega) _) | (refine Ext.trans ?_ (by assumption))))))).mono ?_); rintro e wc' ⟨Ac, cc, Bc, dc, rfl, hxc⟩; have hz_wc' := hxc.size; (try simp at hz_wc'); (try (have hq0_wc' : w.heap.size < wc'.heap.size := by omega)); (try (have hc0_wc' : ∀ o, wc'.cell? ⟨w.heap.size, o, none⟩ = _ := fun o => hxc.cells.1 _ o (by first | (simp; done) | (simp; omega) | omega))); (try (have hf0_wc' : ∀ o, wc'.frozen? ⟨w.heap.size, o, none⟩ = _ := fun o => hxc.cells.2 _ o (by first | (simp; done) | (simp; omega) | omega))); (try (have hq1_wc' : w.heap.size + 1 < wc'.heap.size := by omega)); (try (have hc1_wc' : ∀ o, wc'.cell? ⟨w.heap.size + 1, o, none⟩ = _ := fun o => hxc.cells.1 _ o (by first | (simp; done) | (simp; omega) | omega))); (try (have hf1_wc' : ∀ o, wc'.frozen? ⟨w.heap.size + 1, o, none⟩ = _ := fun o => hxc.cells.2 _ o (by first | (simp; done) | (simp; omega) | omega))); (try (have hq2_wc' : wa.heap.size < wc'.heap.size := by omega)); (try (have hc2_wc' : ∀ o, wc'.cell? ⟨wa.heap.size, o, none⟩ = _ := fun o => hxc.cells.1 _ o (by first | (simp; done) | (simp; omega) | omega))); (try (have hf2_wc' : ∀ o, wc'.frozen? ⟨wa.heap.size, o, none⟩ = _ := fun o => hxc.cells.2 _ o (by first | (simp; done) | (simp; omega) | omega))); (try (have hq3_wc' : wb.heap.size < wc'.heap.size := by omega)); (try (have hc3_wc' : ∀ o, wc'.cell? ⟨wb.heap.size, o, none⟩ = _ := fun o => hxc.cells.1 _ o (by first | (simp; done) | (simp; omega) | omega))); (try (have hf3_wc' : ∀ o, wc'.frozen? ⟨wb.heap.size, o, none⟩ = _ := fun o => hxc.cells.2 _ o (by first | (simp; done) | (simp; omega) | omega)))))
    all_goals (go_wp2_with fail; go_meet)
    all_goals first
      | (with_reducible refine cqb_new rfl ?_ ?_ ?_ ?_ _ _ _ _ wb.heap.size wb.heap.size ⟨?_, ?_, ?_⟩ ⟨?_, ?_⟩ ⟨?_, ?_⟩ (rowW_in (Ra.ext ?_)) (lrowW_in (Rb.ext ?_)) passRW_no)
      | (with_reducible refine cqb_set rfl ?_ ?_ ?_ ?_ ?_ ?_ ?_ ?_ (fun i => ?_) ?_ hg0 ?_ ?_ _ _ _ _ wb.heap.size wb.heap.size ⟨?_, ?_, ?_⟩ ⟨?_, ?_⟩ ⟨?_, ?_⟩ ?_ ?_ ?_ (rowW_in (Ra.ext ?_)) (lrowW_in (Rb.ext ?_)) passRW_no)
    all_goals first
      | (simp; done)
      | (simp; omega)
      | omega
      | (go_simp; done)
      | exact HBX.out.ext (by with_reducible (repeat (first | exact Ext.refl _ | apply Ext.drewN | apply Ext.drew | apply Ext.alloc | (refine Ext.set ?_ (by first | (simp; done) | (simp; omega) | omega) _) | (refine Ext.trans ?_ (by assumption)))))
      | exact HRX.out.ext (by with_reducible (repeat (first | exact Ext.refl _ | apply Ext.drewN | apply Ext.drew | apply Ext.alloc | (refine Ext.set ?_ (by first | (simp; done) | (simp; omega) | omega) _) | (refine Ext.trans ?_ (by assumption)))))
      | exact (by with_reducible (repeat (first | exact Ext.refl _ | apply Ext.drewN | apply Ext.drew | apply Ext.alloc | (refine Ext.set ?_ (by first | (simp; done) | (simp; omega) | omega) _) | (refine Ext.trans ?_ (by assumption)))))
      | (left; simp; done)
      | (left; simp; omega)
      | (right; simp; done)
      | (right; simp; omega)
      | trace_state
  case rest =>
    obtain ⟨g, V, hcut⟩ := hcut
    have HC0 := Lib.hid hcut
    obtain ⟨vk, A1, n1, c1, B1, m1, d1, S1, q1, e1, P1, p1, f1, Q1, r1, g1⟩ := V
    obtain ⟨hs3, hlo, hk, ⟨he1, he2, he3⟩, hbox, hfr, hold, hres, hX, -⟩ := hcut
    dsimp only at *
    subst hs3 hk he1 he2 he3
    have HC := HC0
    obtain ⟨ho1, h00, h01, h02, h03, h04, h05⟩ := hold
    obtain ⟨hg1, h10, h11, h12, h13, h14, h15⟩ := hbox
    dsimp only at *
    have hf := hfr.f
    have hfr2 := hres.f
    obtain ⟨u0, rr0⟩ := hres.c 0 (by omega)
    obtain ⟨u1, rr1⟩ := hres.c 1 (by omega)
    obtain ⟨u2, rr2⟩ := hres.c 2 (by omega)
    obtain ⟨u3, rr3⟩ := hres.c 3 (by omega)
    obtain ⟨u4, rr4⟩ := hres.c 4 (by omega)
    obtain ⟨u5, rr5⟩ := hres.c 5 (by omega)
    have hrl := hres.lt
    clear s0 s1 s2 s3 s4 s5
    go_wp2_with (at_builtin; refine appS rfl _ _ rfl rfl ((hs.ext hX).ext ((Ext.refl _).alloc _)) rfl hns ?_; intro S5 e5 w5 R5 hx5; have hE5 : Ext wc w5 := Ext.trans (by with_reducible (repeat (first | exact Ext.refl _ | apply Ext.drewN | apply Ext.drew | apply Ext.alloc | (refine Ext.set ?_ (by first | (simp; done) | (simp; omega) | omega) _) | (refine Ext.trans ?_ (by assumption))))) hx5; have HF := Lib.hid (HC.out.fin hE5 _ _ ⟨(by simp), (by have := hx5.size; exact this), Nat.le_refl _⟩ (rowSW_in R5)); have hg5 : g < w5.heap.size := Nat.lt_of_lt_of_le hg1 hE5.size; have b5 := (⟨hg1, h10, h11, h12, h13, h14, h15⟩ : NBox wc g (⟨vk, A1, n1, c1, B1, m1, d1, none, 0, 0, P1, p1, f1, Q1, r1, g1⟩ : NV)).ext hE5; obtain ⟨-, k0, k1, k2, k3, k4, k5⟩ := b5; dsimp only at k0 k1 k2 k3 k4 k5; have hf5 : ∀ i, w5.frozen? ⟨g, i, none⟩ = false := (hfr.ext hE5).f; have hrf5 : ∀ i, w5.frozen? ⟨w.heap.size, i, none⟩ = false := (hres.ext hE5).f; have x0 := hE5.cell hrl rr0; have x1 := hE5.cell hrl rr1; have x2 := hE5.cell hrl rr2; have x3 := hE5.cell hrl rr3; have x4 := hE5.cell hrl rr4; have x5 := hE5.cell hrl rr5; have hrl5 : w.heap.size < w5.heap.size := Nat.lt_of_lt_of_le hrl hE5.size; clear R5)
    refine bodyPost_ret (v := (⟨vk, A1, n1, c1, B1, m1, d1, S5, ns, e5, P1, p1, f1, Q1, r1, g1⟩ : NV).val) ?_ ?_ ?_
    · exact results_not rfl rfl (sto_box HF.out.1 (⟨vk, A1, n1, c1, B1, m1, d1, S5, ns, e5, P1, p1, f1, Q1, r1, g1⟩ : NV))
    · rfl
    · exact HF.out.2.2
end Go.Proofs.YtbihbhdaenhdoaaGreat

namespace Go.Proofs.YtbihbhdaenhdoaaGreat
set_option linter.unusedVariables false
set_option linter.unusedSimpArgs false
open Go.ChangeShapes Go.WideShapes Go.ChangeAt Go.RowKit Go.Joins Go.Deep

set_option maxRecDepth 100000 in
set_option maxHeartbeats 8000000 in
theorem l07Copy_3 (g0 : Nat) (k : Int) (A B S P Q : Option Addr) (na ca nb cb cs cp cq : Nat) (w : World) (dp : List Int) (dm : List (List Int)) (hp : Ints w A na dp) (hm : Lists w B nb dm) (hna : na ≤ 12) (hnb : nb ≤ 12) (hL : ∀ i, i < nb → (ll dm i).length ≤ 1000000) (np nq : Nat) (da db : List (Int × Bool)) (ha : Thr w P np da) (hb : Thr w Q nq db) (hnp : 1 ≤ np ∧ np ≤ 8) (hnq : 1 ≤ nq ∧ nq ≤ 8) (hB : NBox w g0 ⟨k, A, na, ca, B, nb, cb, S, 0, cs, P, np, cp, Q, nq, cq⟩) :
    Calls Tryz.prog 30 #[.pointer (some ⟨g0, 0, none⟩)] w (RetN w ⟨k, dp, dm, [], da, db⟩) := by
  obtain ⟨iS, hiS⟩ := iSyb
  have hg0 := hB.lt
  have HLL := Lib.hid hL
  have HBX := Lib.hid hB
  have HMB : Hid (MBox w g0 2 B nb cb) := ⟨hg0, hB.c2⟩
  have HPB : Hid (PBoxO w g0 4 P np cp Q nq cq) := ⟨hg0, hB.c4, hB.c5⟩
  have HRX : Hid (Six (w.alloc (.cells #[.int .i64 0, .slice none 0 0, .slice none 0 0, .slice none 0 0, .slice none 0 0, .slice none 0 0] 33)) w.heap.size) := Six.new w _ _ _ _ _ _ _
  obtain ⟨-, s0, s1, s2, s3, s4, s5⟩ := hB
  dsimp only at s0 s1 s2 s3 s4 s5
  clear hL
  go_enter Tryz.func30, Tryz.ntmps30
  go_upto_region 1 with fail
  go_cut [3] (fun s3 wx => ∃ g V, CqB w wx g0 ⟨k, A, na, ca, B, nb, cb, S, 0, cs, P, np, cp, Q, nq, cq⟩ s3 g V dp dm da db)
  case first =>
    go_region_held3 (fun wz => wz.cell? ⟨g0, 0, none⟩ = some (.int .i64 k) ∧ wz.cell? ⟨g0, 1, none⟩ = some (.slice A na ca) ∧ wz.cell? ⟨g0, 2, none⟩ = some (.slice B nb cb) ∧ wz.cell? ⟨g0, 3, none⟩ = some (.slice S 0 cs) ∧ wz.cell? ⟨g0, 4, none⟩ = some (.slice P np cp) ∧ wz.cell? ⟨g0, 5, none⟩ = some (.slice Q nq cq)) (exact (HBX.out.ext (show Ext w _ from (by with_reducible (repeat (first | exact Ext.refl _ | apply Ext.drewN | apply Ext.drew | apply Ext.alloc | (refine Ext.set ?_ (by first | (simp; done) | (simp; omega) | omega) _) | (refine Ext.trans ?_ (by assumption))))))).six) (first | (go_at_call 70; (with_reducible refine (l00Own_any A na ca dp _ (hp.ext (by with_reducible (repeat (first | exact Ext.refl _ | apply Ext.drewN | apply Ext.drew | apply Ext.alloc | (refine Ext.set ?_ (by first | (simp; done) | (simp; omega) | omega) _) | (refine Ext.trans ?_ (by assumption)))))) (by omega)).mono ?_); rintro e wa ⟨Aa, ca', rfl, Oa⟩; have hxa := Oa.ext; have Ra := Oa.row; have hz_wa := hxa.size; (try simp at hz_wa); (try (have hq0_wa : w.heap.size < wa.heap.size := by omega)); (try (have hc0_wa : ∀ o, wa.cell? ⟨w.heap.size, o, none⟩ = _ := fun o => hxa.cells.1 _ o (by first | (simp; done) | (simp; omega) | omega))); (try (have hf0_wa : ∀ o, wa.frozen? ⟨w.heap.size, o, none⟩ = _ := fun o => hxa.cells.2 _ o (by first | (simp; done) | (simp; omega) | omega))); (try (have hq1_wa : w.heap.size + 1 < wa.heap.size := by omega)); (try (have hc1_wa : ∀ o, wa.cell? ⟨w.heap.size + 1, o, none⟩ = _ := fun o => hxa.cells.1 _ o (by first | (simp; done) | (simp; omega) | omega))); (try (have hf1_wa : ∀ o, wa.frozen? ⟨w.heap.size + 1, o, none⟩ = _ := fun o => hxa.cells.2 _ o (by first | (simp; done) | (simp; omega) | omega)))) | (go_at_call 71; (with_reducible refine (l04Own_any g0 2 B nb cb dm _ (HMB.out.ext (by with_reducible (repeat (first | exact Ext.refl _ | apply Ext.drewN | apply Ext.drew | apply Ext.alloc | (refine Ext.set ?_ (by first | (simp; done) | (simp; omega) | omega) _) | (refine Ext.trans ?_ (by assumption)))))) (hm.ext (by with_reducible (repeat (first | exact Ext.refl _ | apply Ext.drewN | apply Ext.drew | apply Ext.alloc | (refine Ext.set ?_ (by first | (simp; done) | (simp; omega) | omega) _) | (refine Ext.trans ?_ (by assumption)))))) (by omega) HLL.out).mono ?_); rintro e wb ⟨Ab, cb', rfl, Rb, hxb⟩; have hz_wb := hxb.size; (try simp at hz_wb); (try (have hq0_wb : w.heap.size < wb.heap.size := by omega)); (try (have hc0_wb : ∀ o, wb.cell? ⟨w.heap.size, o, none⟩ = _ := fun o => hxb.cells.1 _ o (by first | (simp; done) | (simp; omega) | omega))); (try (have hf0_wb : ∀ o, wb.frozen? ⟨w.heap.size, o, none⟩ = _ := fun o => hxb.cells.2 _ o (by first | (simp; done) | (simp; omega) | omega))); (try (have hq1_wb : w.heap.size + 1 < wb.heap.size := by omega)); (try (have hc1_wb : ∀ o, wb.cell? ⟨w.heap.size + 1, o, none⟩ = _ := fun o => hxb.cells.1 _ o (by first | (simp; done) | (simp; omega) | omega))); (try (have hf1_wb : ∀ o, wb.frozen? ⟨w.heap.size + 1, o, none⟩ = _ := fun o => hxb.cells.2 _ o (by first | (simp; done) | (simp; omega) | omega))); (try (have hq2_wb : wa.heap.size < wb.heap.size := by omega)); (try (have hc2_wb : ∀ o, wb.cell? ⟨wa.heap.size, o, none⟩ = _ := fun o => hxb.cells.1 _ o (by first | (simp; done) | (simp; omega) | omega))); (try (have hf2_wb : ∀ o, wb.frozen? ⟨wa.heap.size, o, none⟩ = _ := fun o => hxb.cells.2 _ o (by first | (simp; done) | (simp; omega) | omega)))) | (go_at_call 72; (with_reducible refine (l06Own_o g0 4 P Q np cp nq cq da db _ (HPB.out.ext (by with_reducible (repeat (first | exact Ext.refl _ | apply Ext.drewN | apply Ext.drew | apply Ext.alloc | (refine Ext.set ?_ (by first | (simp; done) | (simp; omega) | omega) _) | (refine Ext.trans ?_ (by assumption)))))) (ha.ext (by with_reducible (repeat (first | exact Ext.refl _ | apply Ext.drewN | apply Ext.drew | apply Ext.alloc | (refine Ext.set ?_ (by first | (simp; done) | (simp; omega) | omega) _) | (refine Ext.trans ?_ (by assumption)))))) (hb.ext (by with_reducible (repeat (first | exact Ext.refl _ | apply Ext.drewN | apply Ext.drew | apply Ext.alloc | (refine Ext.set ?_ (by first | (simp; done) | (simp; omega) | omega) _) | (refine Ext.trans ?_ (by assumption)))))) hnp hnq).mono ?_); rintro e wc' ⟨Ac, cc, Bc, dc, rfl, Rc, hxc⟩; have hz_wc' := hxc.size; (try simp at hz_wc'); (try (have hq0_wc' : w.heap.size < wc'.heap.size := by omega)); (try (have hc0_wc' : ∀ o, wc'.cell? ⟨w.heap.size, o, none⟩ = _ := fun o => hxc.cells.1 _ o (by first | (simp; done) | (simp; omega) | omega))); (try (have hf0_wc' : ∀ o, wc'.frozen? ⟨w.heap.size, o, none⟩ = _ := fun o => hxc.cells.2 _ o (by first | (simp; done) | (simp; omega) | omega))); (try (have hq1_wc' : w.heap.size + 1 < wc'.heap.size := by omega)); (try (have hc1_wc' : ∀ o, wc'.cell? ⟨w.heap.size + 1, o, none⟩ = _ := fun o => hxc.cells.1 _ o (by first | (simp; done) | (simp; omega) | omega))); (try (have hf1_wc' : ∀ o, wc'.frozen? ⟨w.heap.size + 1, o, none⟩ = _ := fun o => hxc.cells.2 _ o (by first | (simp; done) | (simp; omega) | omega))); (try (have hq2_wc' : wa.heap.size < wc'.heap.size := by omega)); (try (have hc2_wc' : ∀ o, wc'.cell? ⟨wa.heap.size, o, none⟩ = _ := fun o => hxc.cells.1 _ o (by first | (simp; done) | (simp; omega) | omega))); (try (have hf2_wc' : ∀ o, wc'.frozen? ⟨wa.heap.size, o, none⟩ = _ := fun o => hxc.cells.2 _ o (by first | (simp; done) | (simp; omega) | omega))); (try (have hq3_wc' : wb.heap.size < wc'.heap.size := by omega)); (try (have hc3_wc' : ∀ o, wc'.cell? ⟨wb.heap.size, o, none⟩ = _ := fun o => hxc.cells.1 _ o (by first | (simp; done) | (simp; omega) | omega))); (try (have hf3_wc' : ∀ o, wc'.frozen? ⟨wb.heap.size, o, none⟩ = _ := fun o => hxc.cells.2 _ o (by first | (simp; done) | (simp; omega) | omega)))))
    all_goals (go_wp2_with fail; go_meet)
    all_goals first
      | (with_reducible refine cqb_new rfl ?_ ?_ ?_ ?_ _ _ _ _ _ _ ⟨?_, ?_, ?_⟩ ⟨?_, ?_⟩ ⟨?_, ?_⟩ (rowW_in (Ra.ext ?_)) (lrowW_in (Rb.ext ?_)) (passRW_in (Rc.ext ?_)))
      | (with_reducible refine cqb_set rfl ?_ ?_ ?_ ?_ ?_ ?_ ?_ ?_ (fun i => ?_) ?_ hg0 ?_ ?_ _ _ _ _ _ _ ⟨?_, ?_, ?_⟩ ⟨?_, ?_⟩ ⟨?_, ?_⟩ ?_ ?_ ?_ (rowW_in (Ra.ext ?_)) (lrowW_in (Rb.ext ?_)) (passRW_in (Rc.ext ?_)))
    all_goals first
      | (simp; done)
      | (simp; omega)
      | omega
      | (go_simp; done)
      | exact HBX.out.ext (by with_reducible (repeat (first | exact Ext.refl _ | apply Ext.drewN | apply Ext.drew | apply Ext.alloc | (refine Ext.set ?_ (by first | (simp; done) | (simp; omega) | omega) _) | (refine Ext.trans ?_ (by assumption)))))
      | exact HRX.out.ext (by with_reducible (repeat (first | exact Ext.refl _ | apply Ext.drewN | apply Ext.drew | apply Ext.alloc | (refine Ext.set ?_ (by first | (simp; done) | (simp; omega) | omega) _) | (refine Ext.trans ?_ (by assumption)))))
      | exact (by with_reducible (repeat (first | exact Ext.refl _ | apply Ext.drewN | apply Ext.drew | apply Ext.alloc | (refine Ext.set ?_ (by first | (simp; done) | (simp; omega) | omega) _) | (refine Ext.trans ?_ (by assumption)))))
      | (left; simp; done)
      | (left; simp; omega)
      | (right; simp; done)
      | (right; simp; omega)
      | trace_state
  case rest =>
    obtain ⟨g, V, hcut⟩ := hcut
    have HC0 := Lib.hid hcut
    obtain ⟨vk, A1, n1, c1, B1, m1, d1, S1, q1, e1, P1, p1, f1, Q1, r1, g1⟩ := V
    obtain ⟨hs3, hlo, hk, ⟨he1, he2, he3⟩, hbox, hfr, hold, hres, hX, -⟩ := hcut
    dsimp only at *
    subst hs3 hk he1 he2 he3
    have HC := HC0
    obtain ⟨ho1, h00, h01, h02, h03, h04, h05⟩ := hold
    obtain ⟨hg1, h10, h11, h12, h13, h14, h15⟩ := hbox
    dsimp only at *
    have hf := hfr.f
    have hfr2 := hres.f
    obtain ⟨u0, rr0⟩ := hres.c 0 (by omega)
    obtain ⟨u1, rr1⟩ := hres.c 1 (by omega)
    obtain ⟨u2, rr2⟩ := hres.c 2 (by omega)
    obtain ⟨u3, rr3⟩ := hres.c 3 (by omega)
    obtain ⟨u4, rr4⟩ := hres.c 4 (by omega)
    obtain ⟨u5, rr5⟩ := hres.c 5 (by omega)
    have hrl := hres.lt
    clear s0 s1 s2 s3 s4 s5
    go_wp2_with (at_builtin; refine appE rfl _ _ Tryz.underlying28 hiS rfl rfl rfl ?_; have hE5 : Ext wc (wc.alloc (.cells #[] 102)) := (Ext.refl _).alloc _; have HF := Lib.hid (HC.out.fin (Ext.refl wc) wc.heap.size wc.heap.size ⟨Nat.le_refl _, Nat.le_refl _, Nat.le_refl _⟩ (rowSW_no (A := some ⟨wc.heap.size, 0, none⟩) (c := 0))))
    refine bodyPost_ret (v := (⟨vk, A1, n1, c1, B1, m1, d1, some ⟨wc.heap.size, 0, none⟩, 0, 0, P1, p1, f1, Q1, r1, g1⟩ : NV).val) ?_ ?_ ?_
    · exact results_not rfl rfl ((sto_box HF.out.1 (⟨vk, A1, n1, c1, B1, m1, d1, some ⟨wc.heap.size, 0, none⟩, 0, 0, P1, p1, f1, Q1, r1, g1⟩ : NV)).ext ((Ext.refl _).alloc (.cells #[] 102)))
    · rfl
    · exact HF.out.2.2.ext ((Ext.refl _).alloc (.cells #[] 102))
end Go.Proofs.YtbihbhdaenhdoaaGreat
