/- The laws' copy of notations. No condition but the stated bounds. (tools/gntn.py) -/
import Derived.Test.YtohmnilkmljioaaGreatNrs
namespace Go.Proofs.YtohmnilkmljioaaGreat
set_option linter.unusedVariables false
set_option linter.unusedSimpArgs false
open Go.ChangeShapes Go.WideShapes Go.ChangeAt Go.RowKit Go.Joins Go.Deep

/-- What hands back a notation in memory of its own. -/
def RetN (w : World) (D : ND) (e : Ending) (w' : World) : Prop := ∃ V : NV, e = .returned V.val ∧ NtO w' w.heap.size w'.heap.size V D ∧ Ext w w'
set_option maxHeartbeats 20000000 in
theorem toNotation_own (V : NV) (D : ND) (w : World) (hI : NtR w V D) (hS : D.Sm) :
    Calls Tryz.prog 6 #[V.val] w (RetN w D) := by
  obtain ⟨k, A, na, ca, B, nb, cb, S, ns, cs, P, np, cp, Q, nq, cq⟩ := V
  obtain ⟨kk, dp, dm, ds, da, db⟩ := D
  obtain ⟨hk, hp, hm, hs, ha, hb⟩ := hI
  obtain ⟨sp, sm, sl, ss, sa, sb⟩ := hS
  unfold NV.val
  dsimp only at *
  subst hk
  have lp := hp.len
  have lm := hm.len
  have ls := hs.len
  have la := ha.len
  have lb := hb.len
  have vp : na ≤ 1048576 := by omega
  have vm : nb ≤ 1048576 := by omega
  have vs : ns ≤ 1048576 := by omega
  have va : np ≤ 1048576 := by omega
  have vb : nq ≤ 1048576 := by omega
  have HSL : Hid (∀ i, i < nb → (ll dm i).length ≤ 1048576) := fun i hi => sl i (by omega)
  clear sl sp sm ss sa sb
  go_enter Tryz.func6, Tryz.ntmps6
  go_wp2_with fail
  (with_reducible refine (toInt64S_row A na ca dp _ (hp.ext (by with_reducible (repeat (first | exact Ext.refl _ | apply Ext.drewN | apply Ext.drew | apply Ext.alloc | (refine Ext.set ?_ (by first | (simp; done) | (simp; omega) | omega) _) | (refine Ext.trans ?_ (by assumption)))))) vp).mono ?_)
  rintro e w1 ⟨A1, c1, rfl, R1, hx1⟩
  have hz1 := hx1.size
  (try simp [World.setCell] at hz1)
  have a1_0 : w1.cell? ⟨w.heap.size, 0, none⟩ = some (.int .i64 k) := (hx1.cells.1 _ 0 (by first | (simp; done) | (simp; omega) | omega)).trans (by simp [World.setCell, go_sem])
  have a1_1 : w1.cell? ⟨w.heap.size, 1, none⟩ = some (.slice A na ca) := (hx1.cells.1 _ 1 (by first | (simp; done) | (simp; omega) | omega)).trans (by simp [World.setCell, go_sem])
  have a1_2 : w1.cell? ⟨w.heap.size, 2, none⟩ = some (.slice B nb cb) := (hx1.cells.1 _ 2 (by first | (simp; done) | (simp; omega) | omega)).trans (by simp [World.setCell, go_sem])
  have a1_3 : w1.cell? ⟨w.heap.size, 3, none⟩ = some (.slice S ns cs) := (hx1.cells.1 _ 3 (by first | (simp; done) | (simp; omega) | omega)).trans (by simp [World.setCell, go_sem])
  have a1_4 : w1.cell? ⟨w.heap.size, 4, none⟩ = some (.slice P np cp) := (hx1.cells.1 _ 4 (by first | (simp; done) | (simp; omega) | omega)).trans (by simp [World.setCell, go_sem])
  have a1_5 : w1.cell? ⟨w.heap.size, 5, none⟩ = some (.slice Q nq cq) := (hx1.cells.1 _ 5 (by first | (simp; done) | (simp; omega) | omega)).trans (by simp [World.setCell, go_sem])
  have r1_0 : w1.cell? ⟨w.heap.size + 1, 0, none⟩ = some (.int .i64 0) := (hx1.cells.1 _ 0 (by first | (simp; done) | (simp; omega) | omega)).trans (by simp [World.setCell, go_sem])
  have g1_0 : w1.frozen? ⟨w.heap.size + 1, 0, none⟩ = false := (hx1.cells.2 _ 0 (by first | (simp; done) | (simp; omega) | omega)).trans (by simp [World.setCell, go_sem])
  have r1_1 : w1.cell? ⟨w.heap.size + 1, 1, none⟩ = some (.slice none 0 0) := (hx1.cells.1 _ 1 (by first | (simp; done) | (simp; omega) | omega)).trans (by simp [World.setCell, go_sem])
  have g1_1 : w1.frozen? ⟨w.heap.size + 1, 1, none⟩ = false := (hx1.cells.2 _ 1 (by first | (simp; done) | (simp; omega) | omega)).trans (by simp [World.setCell, go_sem])
  have r1_2 : w1.cell? ⟨w.heap.size + 1, 2, none⟩ = some (.slice none 0 0) := (hx1.cells.1 _ 2 (by first | (simp; done) | (simp; omega) | omega)).trans (by simp [World.setCell, go_sem])
  have g1_2 : w1.frozen? ⟨w.heap.size + 1, 2, none⟩ = false := (hx1.cells.2 _ 2 (by first | (simp; done) | (simp; omega) | omega)).trans (by simp [World.setCell, go_sem])
  have r1_3 : w1.cell? ⟨w.heap.size + 1, 3, none⟩ = some (.slice none 0 0) := (hx1.cells.1 _ 3 (by first | (simp; done) | (simp; omega) | omega)).trans (by simp [World.setCell, go_sem])
  have g1_3 : w1.frozen? ⟨w.heap.size + 1, 3, none⟩ = false := (hx1.cells.2 _ 3 (by first | (simp; done) | (simp; omega) | omega)).trans (by simp [World.setCell, go_sem])
  have r1_4 : w1.cell? ⟨w.heap.size + 1, 4, none⟩ = some (.slice none 0 0) := (hx1.cells.1 _ 4 (by first | (simp; done) | (simp; omega) | omega)).trans (by simp [World.setCell, go_sem])
  have g1_4 : w1.frozen? ⟨w.heap.size + 1, 4, none⟩ = false := (hx1.cells.2 _ 4 (by first | (simp; done) | (simp; omega) | omega)).trans (by simp [World.setCell, go_sem])
  have r1_5 : w1.cell? ⟨w.heap.size + 1, 5, none⟩ = some (.slice none 0 0) := (hx1.cells.1 _ 5 (by first | (simp; done) | (simp; omega) | omega)).trans (by simp [World.setCell, go_sem])
  have g1_5 : w1.frozen? ⟨w.heap.size + 1, 5, none⟩ = false := (hx1.cells.2 _ 5 (by first | (simp; done) | (simp; omega) | omega)).trans (by simp [World.setCell, go_sem])
  have b1_0 : w1.cell? ⟨w.heap.size + 1 + 1, 0, none⟩ = some (.int .i64 k) := (hx1.cells.1 _ 0 (by first | (simp; done) | (simp; omega) | omega)).trans (by simp [World.setCell, go_sem])
  have e1_0 : w1.frozen? ⟨w.heap.size + 1 + 1, 0, none⟩ = false := (hx1.cells.2 _ 0 (by first | (simp; done) | (simp; omega) | omega)).trans (by simp [World.setCell, go_sem])
  have b1_1 : w1.cell? ⟨w.heap.size + 1 + 1, 1, none⟩ = some (.slice none 0 0) := (hx1.cells.1 _ 1 (by first | (simp; done) | (simp; omega) | omega)).trans (by simp [World.setCell, go_sem])
  have e1_1 : w1.frozen? ⟨w.heap.size + 1 + 1, 1, none⟩ = false := (hx1.cells.2 _ 1 (by first | (simp; done) | (simp; omega) | omega)).trans (by simp [World.setCell, go_sem])
  have b1_2 : w1.cell? ⟨w.heap.size + 1 + 1, 2, none⟩ = some (.slice none 0 0) := (hx1.cells.1 _ 2 (by first | (simp; done) | (simp; omega) | omega)).trans (by simp [World.setCell, go_sem])
  have e1_2 : w1.frozen? ⟨w.heap.size + 1 + 1, 2, none⟩ = false := (hx1.cells.2 _ 2 (by first | (simp; done) | (simp; omega) | omega)).trans (by simp [World.setCell, go_sem])
  have b1_3 : w1.cell? ⟨w.heap.size + 1 + 1, 3, none⟩ = some (.slice none 0 0) := (hx1.cells.1 _ 3 (by first | (simp; done) | (simp; omega) | omega)).trans (by simp [World.setCell, go_sem])
  have e1_3 : w1.frozen? ⟨w.heap.size + 1 + 1, 3, none⟩ = false := (hx1.cells.2 _ 3 (by first | (simp; done) | (simp; omega) | omega)).trans (by simp [World.setCell, go_sem])
  have b1_4 : w1.cell? ⟨w.heap.size + 1 + 1, 4, none⟩ = some (.slice none 0 0) := (hx1.cells.1 _ 4 (by first | (simp; done) | (simp; omega) | omega)).trans (by simp [World.setCell, go_sem])
  have e1_4 : w1.frozen? ⟨w.heap.size + 1 + 1, 4, none⟩ = false := (hx1.cells.2 _ 4 (by first | (simp; done) | (simp; omega) | omega)).trans (by simp [World.setCell, go_sem])
  have b1_5 : w1.cell? ⟨w.heap.size + 1 + 1, 5, none⟩ = some (.slice none 0 0) := (hx1.cells.1 _ 5 (by first | (simp; done) | (simp; omega) | omega)).trans (by simp [World.setCell, go_sem])
  have e1_5 : w1.frozen? ⟨w.heap.size + 1 + 1, 5, none⟩ = false := (hx1.cells.2 _ 5 (by first | (simp; done) | (simp; omega) | omega)).trans (by simp [World.setCell, go_sem])
  have q10 : w.heap.size < w1.heap.size := by omega
  have q11 : w.heap.size + 1 < w1.heap.size := by omega
  have q12 : w.heap.size + 1 + 1 < w1.heap.size := by omega
  have hE1 : Ext w w1 := Ext.trans (by with_reducible (repeat (first | exact Ext.refl _ | apply Ext.drewN | apply Ext.drew | apply Ext.alloc | (refine Ext.set ?_ (by first | (simp; done) | (simp; omega) | omega) _) | (refine Ext.trans ?_ (by assumption))))) hx1
  have hFR1 : Hid (∀ i, w1.frozen? ⟨w.heap.size + 1, i, none⟩ = false) := fun i => (hx1.cells.2 (w.heap.size + 1) i (by first | (simp; done) | (simp; omega) | omega)).trans (by simp [World.setCell, go_sem])
  have HR1 := Lib.hid (show Row w1 (w.heap.size + 1 + 1 + 1) w1.heap.size 2 1 A1 na c1 dp by simpa [World.setCell] using R1)
  clear R1 hx1
  go_wp2_with fail
  (with_reducible refine (toMulti_row B nb cb dm _ (hm.ext (Ext.set hE1 (by simp; try omega) _)) vm HSL.out).mono ?_)
  rintro e w2 ⟨A2, c2, rfl, R2, hx2⟩
  have hz2 := hx2.size
  (try simp [World.setCell] at hz2)
  have a2_0 : w2.cell? ⟨w.heap.size, 0, none⟩ = some (.int .i64 k) := (hx2.cells.1 _ 0 (by first | (simp; done) | (simp; omega) | omega)).trans (cell_oth (by first | (simp; done) | (simp; omega)) a1_0)
  have a2_1 : w2.cell? ⟨w.heap.size, 1, none⟩ = some (.slice A na ca) := (hx2.cells.1 _ 1 (by first | (simp; done) | (simp; omega) | omega)).trans (cell_oth (by first | (simp; done) | (simp; omega)) a1_1)
  have a2_2 : w2.cell? ⟨w.heap.size, 2, none⟩ = some (.slice B nb cb) := (hx2.cells.1 _ 2 (by first | (simp; done) | (simp; omega) | omega)).trans (cell_oth (by first | (simp; done) | (simp; omega)) a1_2)
  have a2_3 : w2.cell? ⟨w.heap.size, 3, none⟩ = some (.slice S ns cs) := (hx2.cells.1 _ 3 (by first | (simp; done) | (simp; omega) | omega)).trans (cell_oth (by first | (simp; done) | (simp; omega)) a1_3)
  have a2_4 : w2.cell? ⟨w.heap.size, 4, none⟩ = some (.slice P np cp) := (hx2.cells.1 _ 4 (by first | (simp; done) | (simp; omega) | omega)).trans (cell_oth (by first | (simp; done) | (simp; omega)) a1_4)
  have a2_5 : w2.cell? ⟨w.heap.size, 5, none⟩ = some (.slice Q nq cq) := (hx2.cells.1 _ 5 (by first | (simp; done) | (simp; omega) | omega)).trans (cell_oth (by first | (simp; done) | (simp; omega)) a1_5)
  have r2_0 : w2.cell? ⟨w.heap.size + 1, 0, none⟩ = some (.int .i64 0) := (hx2.cells.1 _ 0 (by first | (simp; done) | (simp; omega) | omega)).trans (cell_oth (by first | (simp; done) | (simp; omega)) r1_0)
  have g2_0 : w2.frozen? ⟨w.heap.size + 1, 0, none⟩ = false := (hx2.cells.2 _ 0 (by first | (simp; done) | (simp; omega) | omega)).trans (froz_oth g1_0)
  have r2_1 : w2.cell? ⟨w.heap.size + 1, 1, none⟩ = some (.slice none 0 0) := (hx2.cells.1 _ 1 (by first | (simp; done) | (simp; omega) | omega)).trans (cell_oth (by first | (simp; done) | (simp; omega)) r1_1)
  have g2_1 : w2.frozen? ⟨w.heap.size + 1, 1, none⟩ = false := (hx2.cells.2 _ 1 (by first | (simp; done) | (simp; omega) | omega)).trans (froz_oth g1_1)
  have r2_2 : w2.cell? ⟨w.heap.size + 1, 2, none⟩ = some (.slice none 0 0) := (hx2.cells.1 _ 2 (by first | (simp; done) | (simp; omega) | omega)).trans (cell_oth (by first | (simp; done) | (simp; omega)) r1_2)
  have g2_2 : w2.frozen? ⟨w.heap.size + 1, 2, none⟩ = false := (hx2.cells.2 _ 2 (by first | (simp; done) | (simp; omega) | omega)).trans (froz_oth g1_2)
  have r2_3 : w2.cell? ⟨w.heap.size + 1, 3, none⟩ = some (.slice none 0 0) := (hx2.cells.1 _ 3 (by first | (simp; done) | (simp; omega) | omega)).trans (cell_oth (by first | (simp; done) | (simp; omega)) r1_3)
  have g2_3 : w2.frozen? ⟨w.heap.size + 1, 3, none⟩ = false := (hx2.cells.2 _ 3 (by first | (simp; done) | (simp; omega) | omega)).trans (froz_oth g1_3)
  have r2_4 : w2.cell? ⟨w.heap.size + 1, 4, none⟩ = some (.slice none 0 0) := (hx2.cells.1 _ 4 (by first | (simp; done) | (simp; omega) | omega)).trans (cell_oth (by first | (simp; done) | (simp; omega)) r1_4)
  have g2_4 : w2.frozen? ⟨w.heap.size + 1, 4, none⟩ = false := (hx2.cells.2 _ 4 (by first | (simp; done) | (simp; omega) | omega)).trans (froz_oth g1_4)
  have r2_5 : w2.cell? ⟨w.heap.size + 1, 5, none⟩ = some (.slice none 0 0) := (hx2.cells.1 _ 5 (by first | (simp; done) | (simp; omega) | omega)).trans (cell_oth (by first | (simp; done) | (simp; omega)) r1_5)
  have g2_5 : w2.frozen? ⟨w.heap.size + 1, 5, none⟩ = false := (hx2.cells.2 _ 5 (by first | (simp; done) | (simp; omega) | omega)).trans (froz_oth g1_5)
  have b2_0 : w2.cell? ⟨w.heap.size + 1 + 1, 0, none⟩ = some (.int .i64 k) := (hx2.cells.1 _ 0 (by first | (simp; done) | (simp; omega) | omega)).trans (cell_oth (by first | (simp; done) | (simp; omega)) b1_0)
  have e2_0 : w2.frozen? ⟨w.heap.size + 1 + 1, 0, none⟩ = false := (hx2.cells.2 _ 0 (by first | (simp; done) | (simp; omega) | omega)).trans (froz_oth e1_0)
  have b2_1 : w2.cell? ⟨w.heap.size + 1 + 1, 1, none⟩ = some (.slice A1 na c1) := (hx2.cells.1 _ 1 (by first | (simp; done) | (simp; omega) | omega)).trans (cell_same b1_1)
  have e2_1 : w2.frozen? ⟨w.heap.size + 1 + 1, 1, none⟩ = false := (hx2.cells.2 _ 1 (by first | (simp; done) | (simp; omega) | omega)).trans (froz_oth e1_1)
  have b2_2 : w2.cell? ⟨w.heap.size + 1 + 1, 2, none⟩ = some (.slice none 0 0) := (hx2.cells.1 _ 2 (by first | (simp; done) | (simp; omega) | omega)).trans (cell_oth (by first | (simp; done) | (simp; omega)) b1_2)
  have e2_2 : w2.frozen? ⟨w.heap.size + 1 + 1, 2, none⟩ = false := (hx2.cells.2 _ 2 (by first | (simp; done) | (simp; omega) | omega)).trans (froz_oth e1_2)
  have b2_3 : w2.cell? ⟨w.heap.size + 1 + 1, 3, none⟩ = some (.slice none 0 0) := (hx2.cells.1 _ 3 (by first | (simp; done) | (simp; omega) | omega)).trans (cell_oth (by first | (simp; done) | (simp; omega)) b1_3)
  have e2_3 : w2.frozen? ⟨w.heap.size + 1 + 1, 3, none⟩ = false := (hx2.cells.2 _ 3 (by first | (simp; done) | (simp; omega) | omega)).trans (froz_oth e1_3)
  have b2_4 : w2.cell? ⟨w.heap.size + 1 + 1, 4, none⟩ = some (.slice none 0 0) := (hx2.cells.1 _ 4 (by first | (simp; done) | (simp; omega) | omega)).trans (cell_oth (by first | (simp; done) | (simp; omega)) b1_4)
  have e2_4 : w2.frozen? ⟨w.heap.size + 1 + 1, 4, none⟩ = false := (hx2.cells.2 _ 4 (by first | (simp; done) | (simp; omega) | omega)).trans (froz_oth e1_4)
  have b2_5 : w2.cell? ⟨w.heap.size + 1 + 1, 5, none⟩ = some (.slice none 0 0) := (hx2.cells.1 _ 5 (by first | (simp; done) | (simp; omega) | omega)).trans (cell_oth (by first | (simp; done) | (simp; omega)) b1_5)
  have e2_5 : w2.frozen? ⟨w.heap.size + 1 + 1, 5, none⟩ = false := (hx2.cells.2 _ 5 (by first | (simp; done) | (simp; omega) | omega)).trans (froz_oth e1_5)
  have q20 : w.heap.size < w2.heap.size := by omega
  have q21 : w.heap.size + 1 < w2.heap.size := by omega
  have q22 : w.heap.size + 1 + 1 < w2.heap.size := by omega
  clear a1_0 a1_1 a1_2 a1_3 a1_4 a1_5 r1_0 r1_1 r1_2 r1_3 r1_4 r1_5 g1_0 g1_1 g1_2 g1_3 g1_4 g1_5 b1_0 b1_1 b1_2 b1_3 b1_4 b1_5 e1_0 e1_1 e1_2 e1_3 e1_4 e1_5
  have hE2 : Ext w w2 := Ext.trans (Ext.set hE1 (by simp; try omega) _) hx2
  have hFR2 : Hid (∀ i, w2.frozen? ⟨w.heap.size + 1, i, none⟩ = false) := fun i => (hx2.cells.2 (w.heap.size + 1) i (by simp [World.setCell]; omega)).trans (froz_oth (hFR1.out i))
  have HR2 := Lib.hid (show LRow w2 w1.heap.size w2.heap.size A2 nb c2 dm by simpa [World.setCell] using R2)
  have HK1 : Hid (Kept 0 (w.heap.size + 3) w1 w2) := (Kept.set (Kept.of_ext (Ext.refl _)) (by simp; try omega) _).trans (Kept.of_ext hx2)
  clear R2 hx2
  go_wp2_with fail
  (with_reducible refine (toSyncBeatS_row S ns cs ds _ (hs.ext (Ext.set hE2 (by simp; try omega) _)) vs).mono ?_)
  rintro e w3 ⟨A3, c3, rfl, R3, hx3⟩
  have hz3 := hx3.size
  (try simp [World.setCell] at hz3)
  have a3_0 : w3.cell? ⟨w.heap.size, 0, none⟩ = some (.int .i64 k) := (hx3.cells.1 _ 0 (by first | (simp; done) | (simp; omega) | omega)).trans (cell_oth (by first | (simp; done) | (simp; omega)) a2_0)
  have a3_1 : w3.cell? ⟨w.heap.size, 1, none⟩ = some (.slice A na ca) := (hx3.cells.1 _ 1 (by first | (simp; done) | (simp; omega) | omega)).trans (cell_oth (by first | (simp; done) | (simp; omega)) a2_1)
  have a3_2 : w3.cell? ⟨w.heap.size, 2, none⟩ = some (.slice B nb cb) := (hx3.cells.1 _ 2 (by first | (simp; done) | (simp; omega) | omega)).trans (cell_oth (by first | (simp; done) | (simp; omega)) a2_2)
  have a3_3 : w3.cell? ⟨w.heap.size, 3, none⟩ = some (.slice S ns cs) := (hx3.cells.1 _ 3 (by first | (simp; done) | (simp; omega) | omega)).trans (cell_oth (by first | (simp; done) | (simp; omega)) a2_3)
  have a3_4 : w3.cell? ⟨w.heap.size, 4, none⟩ = some (.slice P np cp) := (hx3.cells.1 _ 4 (by first | (simp; done) | (simp; omega) | omega)).trans (cell_oth (by first | (simp; done) | (simp; omega)) a2_4)
  have a3_5 : w3.cell? ⟨w.heap.size, 5, none⟩ = some (.slice Q nq cq) := (hx3.cells.1 _ 5 (by first | (simp; done) | (simp; omega) | omega)).trans (cell_oth (by first | (simp; done) | (simp; omega)) a2_5)
  have r3_0 : w3.cell? ⟨w.heap.size + 1, 0, none⟩ = some (.int .i64 0) := (hx3.cells.1 _ 0 (by first | (simp; done) | (simp; omega) | omega)).trans (cell_oth (by first | (simp; done) | (simp; omega)) r2_0)
  have g3_0 : w3.frozen? ⟨w.heap.size + 1, 0, none⟩ = false := (hx3.cells.2 _ 0 (by first | (simp; done) | (simp; omega) | omega)).trans (froz_oth g2_0)
  have r3_1 : w3.cell? ⟨w.heap.size + 1, 1, none⟩ = some (.slice none 0 0) := (hx3.cells.1 _ 1 (by first | (simp; done) | (simp; omega) | omega)).trans (cell_oth (by first | (simp; done) | (simp; omega)) r2_1)
  have g3_1 : w3.frozen? ⟨w.heap.size + 1, 1, none⟩ = false := (hx3.cells.2 _ 1 (by first | (simp; done) | (simp; omega) | omega)).trans (froz_oth g2_1)
  have r3_2 : w3.cell? ⟨w.heap.size + 1, 2, none⟩ = some (.slice none 0 0) := (hx3.cells.1 _ 2 (by first | (simp; done) | (simp; omega) | omega)).trans (cell_oth (by first | (simp; done) | (simp; omega)) r2_2)
  have g3_2 : w3.frozen? ⟨w.heap.size + 1, 2, none⟩ = false := (hx3.cells.2 _ 2 (by first | (simp; done) | (simp; omega) | omega)).trans (froz_oth g2_2)
  have r3_3 : w3.cell? ⟨w.heap.size + 1, 3, none⟩ = some (.slice none 0 0) := (hx3.cells.1 _ 3 (by first | (simp; done) | (simp; omega) | omega)).trans (cell_oth (by first | (simp; done) | (simp; omega)) r2_3)
  have g3_3 : w3.frozen? ⟨w.heap.size + 1, 3, none⟩ = false := (hx3.cells.2 _ 3 (by first | (simp; done) | (simp; omega) | omega)).trans (froz_oth g2_3)
  have r3_4 : w3.cell? ⟨w.heap.size + 1, 4, none⟩ = some (.slice none 0 0) := (hx3.cells.1 _ 4 (by first | (simp; done) | (simp; omega) | omega)).trans (cell_oth (by first | (simp; done) | (simp; omega)) r2_4)
  have g3_4 : w3.frozen? ⟨w.heap.size + 1, 4, none⟩ = false := (hx3.cells.2 _ 4 (by first | (simp; done) | (simp; omega) | omega)).trans (froz_oth g2_4)
  have r3_5 : w3.cell? ⟨w.heap.size + 1, 5, none⟩ = some (.slice none 0 0) := (hx3.cells.1 _ 5 (by first | (simp; done) | (simp; omega) | omega)).trans (cell_oth (by first | (simp; done) | (simp; omega)) r2_5)
  have g3_5 : w3.frozen? ⟨w.heap.size + 1, 5, none⟩ = false := (hx3.cells.2 _ 5 (by first | (simp; done) | (simp; omega) | omega)).trans (froz_oth g2_5)
  have b3_0 : w3.cell? ⟨w.heap.size + 1 + 1, 0, none⟩ = some (.int .i64 k) := (hx3.cells.1 _ 0 (by first | (simp; done) | (simp; omega) | omega)).trans (cell_oth (by first | (simp; done) | (simp; omega)) b2_0)
  have e3_0 : w3.frozen? ⟨w.heap.size + 1 + 1, 0, none⟩ = false := (hx3.cells.2 _ 0 (by first | (simp; done) | (simp; omega) | omega)).trans (froz_oth e2_0)
  have b3_1 : w3.cell? ⟨w.heap.size + 1 + 1, 1, none⟩ = some (.slice A1 na c1) := (hx3.cells.1 _ 1 (by first | (simp; done) | (simp; omega) | omega)).trans (cell_oth (by first | (simp; done) | (simp; omega)) b2_1)
  have e3_1 : w3.frozen? ⟨w.heap.size + 1 + 1, 1, none⟩ = false := (hx3.cells.2 _ 1 (by first | (simp; done) | (simp; omega) | omega)).trans (froz_oth e2_1)
  have b3_2 : w3.cell? ⟨w.heap.size + 1 + 1, 2, none⟩ = some (.slice A2 nb c2) := (hx3.cells.1 _ 2 (by first | (simp; done) | (simp; omega) | omega)).trans (cell_same b2_2)
  have e3_2 : w3.frozen? ⟨w.heap.size + 1 + 1, 2, none⟩ = false := (hx3.cells.2 _ 2 (by first | (simp; done) | (simp; omega) | omega)).trans (froz_oth e2_2)
  have b3_3 : w3.cell? ⟨w.heap.size + 1 + 1, 3, none⟩ = some (.slice none 0 0) := (hx3.cells.1 _ 3 (by first | (simp; done) | (simp; omega) | omega)).trans (cell_oth (by first | (simp; done) | (simp; omega)) b2_3)
  have e3_3 : w3.frozen? ⟨w.heap.size + 1 + 1, 3, none⟩ = false := (hx3.cells.2 _ 3 (by first | (simp; done) | (simp; omega) | omega)).trans (froz_oth e2_3)
  have b3_4 : w3.cell? ⟨w.heap.size + 1 + 1, 4, none⟩ = some (.slice none 0 0) := (hx3.cells.1 _ 4 (by first | (simp; done) | (simp; omega) | omega)).trans (cell_oth (by first | (simp; done) | (simp; omega)) b2_4)
  have e3_4 : w3.frozen? ⟨w.heap.size + 1 + 1, 4, none⟩ = false := (hx3.cells.2 _ 4 (by first | (simp; done) | (simp; omega) | omega)).trans (froz_oth e2_4)
  have b3_5 : w3.cell? ⟨w.heap.size + 1 + 1, 5, none⟩ = some (.slice none 0 0) := (hx3.cells.1 _ 5 (by first | (simp; done) | (simp; omega) | omega)).trans (cell_oth (by first | (simp; done) | (simp; omega)) b2_5)
  have e3_5 : w3.frozen? ⟨w.heap.size + 1 + 1, 5, none⟩ = false := (hx3.cells.2 _ 5 (by first | (simp; done) | (simp; omega) | omega)).trans (froz_oth e2_5)
  have q30 : w.heap.size < w3.heap.size := by omega
  have q31 : w.heap.size + 1 < w3.heap.size := by omega
  have q32 : w.heap.size + 1 + 1 < w3.heap.size := by omega
  clear a2_0 a2_1 a2_2 a2_3 a2_4 a2_5 r2_0 r2_1 r2_2 r2_3 r2_4 r2_5 g2_0 g2_1 g2_2 g2_3 g2_4 g2_5 b2_0 b2_1 b2_2 b2_3 b2_4 b2_5 e2_0 e2_1 e2_2 e2_3 e2_4 e2_5
  have hE3 : Ext w w3 := Ext.trans (Ext.set hE2 (by simp; try omega) _) hx3
  have hFR3 : Hid (∀ i, w3.frozen? ⟨w.heap.size + 1, i, none⟩ = false) := fun i => (hx3.cells.2 (w.heap.size + 1) i (by simp [World.setCell]; omega)).trans (froz_oth (hFR2.out i))
  have HR3 := Lib.hid (show RowS w3 w2.heap.size w3.heap.size A3 ns c3 ds by simpa [World.setCell] using R3)
  have HK2 : Hid (Kept 0 (w.heap.size + 3) w2 w3) := (Kept.set (Kept.of_ext (Ext.refl _)) (by simp; try omega) _).trans (Kept.of_ext hx3)
  clear R3 hx3
  go_wp2_with fail
  (with_reducible refine (toPassing_row P np cp da Q nq cq db _ (ha.ext (Ext.set hE3 (by simp; try omega) _)) (hb.ext (Ext.set hE3 (by simp; try omega) _)) va vb).mono ?_)
  rintro e w4 ⟨A4, c4, A5, c5, rfl, R4, hx4⟩
  have hz4 := hx4.size
  (try simp [World.setCell] at hz4)
  have a4_0 : w4.cell? ⟨w.heap.size, 0, none⟩ = some (.int .i64 k) := (hx4.cells.1 _ 0 (by first | (simp; done) | (simp; omega) | omega)).trans (cell_oth (by first | (simp; done) | (simp; omega)) a3_0)
  have a4_1 : w4.cell? ⟨w.heap.size, 1, none⟩ = some (.slice A na ca) := (hx4.cells.1 _ 1 (by first | (simp; done) | (simp; omega) | omega)).trans (cell_oth (by first | (simp; done) | (simp; omega)) a3_1)
  have a4_2 : w4.cell? ⟨w.heap.size, 2, none⟩ = some (.slice B nb cb) := (hx4.cells.1 _ 2 (by first | (simp; done) | (simp; omega) | omega)).trans (cell_oth (by first | (simp; done) | (simp; omega)) a3_2)
  have a4_3 : w4.cell? ⟨w.heap.size, 3, none⟩ = some (.slice S ns cs) := (hx4.cells.1 _ 3 (by first | (simp; done) | (simp; omega) | omega)).trans (cell_oth (by first | (simp; done) | (simp; omega)) a3_3)
  have a4_4 : w4.cell? ⟨w.heap.size, 4, none⟩ = some (.slice P np cp) := (hx4.cells.1 _ 4 (by first | (simp; done) | (simp; omega) | omega)).trans (cell_oth (by first | (simp; done) | (simp; omega)) a3_4)
  have a4_5 : w4.cell? ⟨w.heap.size, 5, none⟩ = some (.slice Q nq cq) := (hx4.cells.1 _ 5 (by first | (simp; done) | (simp; omega) | omega)).trans (cell_oth (by first | (simp; done) | (simp; omega)) a3_5)
  have r4_0 : w4.cell? ⟨w.heap.size + 1, 0, none⟩ = some (.int .i64 0) := (hx4.cells.1 _ 0 (by first | (simp; done) | (simp; omega) | omega)).trans (cell_oth (by first | (simp; done) | (simp; omega)) r3_0)
  have g4_0 : w4.frozen? ⟨w.heap.size + 1, 0, none⟩ = false := (hx4.cells.2 _ 0 (by first | (simp; done) | (simp; omega) | omega)).trans (froz_oth g3_0)
  have r4_1 : w4.cell? ⟨w.heap.size + 1, 1, none⟩ = some (.slice none 0 0) := (hx4.cells.1 _ 1 (by first | (simp; done) | (simp; omega) | omega)).trans (cell_oth (by first | (simp; done) | (simp; omega)) r3_1)
  have g4_1 : w4.frozen? ⟨w.heap.size + 1, 1, none⟩ = false := (hx4.cells.2 _ 1 (by first | (simp; done) | (simp; omega) | omega)).trans (froz_oth g3_1)
  have r4_2 : w4.cell? ⟨w.heap.size + 1, 2, none⟩ = some (.slice none 0 0) := (hx4.cells.1 _ 2 (by first | (simp; done) | (simp; omega) | omega)).trans (cell_oth (by first | (simp; done) | (simp; omega)) r3_2)
  have g4_2 : w4.frozen? ⟨w.heap.size + 1, 2, none⟩ = false := (hx4.cells.2 _ 2 (by first | (simp; done) | (simp; omega) | omega)).trans (froz_oth g3_2)
  have r4_3 : w4.cell? ⟨w.heap.size + 1, 3, none⟩ = some (.slice none 0 0) := (hx4.cells.1 _ 3 (by first | (simp; done) | (simp; omega) | omega)).trans (cell_oth (by first | (simp; done) | (simp; omega)) r3_3)
  have g4_3 : w4.frozen? ⟨w.heap.size + 1, 3, none⟩ = false := (hx4.cells.2 _ 3 (by first | (simp; done) | (simp; omega) | omega)).trans (froz_oth g3_3)
  have r4_4 : w4.cell? ⟨w.heap.size + 1, 4, none⟩ = some (.slice none 0 0) := (hx4.cells.1 _ 4 (by first | (simp; done) | (simp; omega) | omega)).trans (cell_oth (by first | (simp; done) | (simp; omega)) r3_4)
  have g4_4 : w4.frozen? ⟨w.heap.size + 1, 4, none⟩ = false := (hx4.cells.2 _ 4 (by first | (simp; done) | (simp; omega) | omega)).trans (froz_oth g3_4)
  have r4_5 : w4.cell? ⟨w.heap.size + 1, 5, none⟩ = some (.slice none 0 0) := (hx4.cells.1 _ 5 (by first | (simp; done) | (simp; omega) | omega)).trans (cell_oth (by first | (simp; done) | (simp; omega)) r3_5)
  have g4_5 : w4.frozen? ⟨w.heap.size + 1, 5, none⟩ = false := (hx4.cells.2 _ 5 (by first | (simp; done) | (simp; omega) | omega)).trans (froz_oth g3_5)
  have b4_0 : w4.cell? ⟨w.heap.size + 1 + 1, 0, none⟩ = some (.int .i64 k) := (hx4.cells.1 _ 0 (by first | (simp; done) | (simp; omega) | omega)).trans (cell_oth (by first | (simp; done) | (simp; omega)) b3_0)
  have e4_0 : w4.frozen? ⟨w.heap.size + 1 + 1, 0, none⟩ = false := (hx4.cells.2 _ 0 (by first | (simp; done) | (simp; omega) | omega)).trans (froz_oth e3_0)
  have b4_1 : w4.cell? ⟨w.heap.size + 1 + 1, 1, none⟩ = some (.slice A1 na c1) := (hx4.cells.1 _ 1 (by first | (simp; done) | (simp; omega) | omega)).trans (cell_oth (by first | (simp; done) | (simp; omega)) b3_1)
  have e4_1 : w4.frozen? ⟨w.heap.size + 1 + 1, 1, none⟩ = false := (hx4.cells.2 _ 1 (by first | (simp; done) | (simp; omega) | omega)).trans (froz_oth e3_1)
  have b4_2 : w4.cell? ⟨w.heap.size + 1 + 1, 2, none⟩ = some (.slice A2 nb c2) := (hx4.cells.1 _ 2 (by first | (simp; done) | (simp; omega) | omega)).trans (cell_oth (by first | (simp; done) | (simp; omega)) b3_2)
  have e4_2 : w4.frozen? ⟨w.heap.size + 1 + 1, 2, none⟩ = false := (hx4.cells.2 _ 2 (by first | (simp; done) | (simp; omega) | omega)).trans (froz_oth e3_2)
  have b4_3 : w4.cell? ⟨w.heap.size + 1 + 1, 3, none⟩ = some (.slice A3 ns c3) := (hx4.cells.1 _ 3 (by first | (simp; done) | (simp; omega) | omega)).trans (cell_same b3_3)
  have e4_3 : w4.frozen? ⟨w.heap.size + 1 + 1, 3, none⟩ = false := (hx4.cells.2 _ 3 (by first | (simp; done) | (simp; omega) | omega)).trans (froz_oth e3_3)
  have b4_4 : w4.cell? ⟨w.heap.size + 1 + 1, 4, none⟩ = some (.slice none 0 0) := (hx4.cells.1 _ 4 (by first | (simp; done) | (simp; omega) | omega)).trans (cell_oth (by first | (simp; done) | (simp; omega)) b3_4)
  have e4_4 : w4.frozen? ⟨w.heap.size + 1 + 1, 4, none⟩ = false := (hx4.cells.2 _ 4 (by first | (simp; done) | (simp; omega) | omega)).trans (froz_oth e3_4)
  have b4_5 : w4.cell? ⟨w.heap.size + 1 + 1, 5, none⟩ = some (.slice none 0 0) := (hx4.cells.1 _ 5 (by first | (simp; done) | (simp; omega) | omega)).trans (cell_oth (by first | (simp; done) | (simp; omega)) b3_5)
  have e4_5 : w4.frozen? ⟨w.heap.size + 1 + 1, 5, none⟩ = false := (hx4.cells.2 _ 5 (by first | (simp; done) | (simp; omega) | omega)).trans (froz_oth e3_5)
  have q40 : w.heap.size < w4.heap.size := by omega
  have q41 : w.heap.size + 1 < w4.heap.size := by omega
  have q42 : w.heap.size + 1 + 1 < w4.heap.size := by omega
  clear a3_0 a3_1 a3_2 a3_3 a3_4 a3_5 r3_0 r3_1 r3_2 r3_3 r3_4 r3_5 g3_0 g3_1 g3_2 g3_3 g3_4 g3_5 b3_0 b3_1 b3_2 b3_3 b3_4 b3_5 e3_0 e3_1 e3_2 e3_3 e3_4 e3_5
  have hE4 : Ext w w4 := Ext.trans (Ext.set hE3 (by simp; try omega) _) hx4
  have HR4 := Lib.hid (show PassR w4 w3.heap.size w4.heap.size A4 np c4 A5 nq c5 da db by simpa [World.setCell] using R4)
  have HK3 : Hid (Kept 0 (w.heap.size + 3) w3 w4) := (Kept.set (Kept.of_ext (Ext.refl _)) (by simp; try omega) _).trans (Kept.of_ext hx4)
  have hFR4 : Hid (∀ i, w4.frozen? ⟨w.heap.size + 1, i, none⟩ = false) := fun i => (hx4.cells.2 (w.heap.size + 1) i (by simp [World.setCell]; omega)).trans (froz_oth (hFR3.out i))
  clear R4 hx4
  have hfin : ∀ W, Kept 0 (w.heap.size + 3) w4 W → NtO W w.heap.size W.heap.size ⟨k, A1, na, c1, A2, nb, c2, A3, ns, c3, A4, np, c4, A5, nq, c5⟩ ⟨k, dp, dm, ds, da, db⟩ := fun W hW => by
    have hsz := hW.size
    refine ⟨rfl, w.heap.size + 1 + 1 + 1, w1.heap.size, w1.heap.size, w2.heap.size, w2.heap.size, w3.heap.size, w3.heap.size, w4.heap.size, ⟨by omega, by omega, by omega, by omega, by omega, by omega, by omega, by omega, by omega, by omega⟩, ?_, ?_, ?_, ?_⟩
    · exact .inl (HR1.out.held (((HK1.out.trans HK2.out).trans HK3.out).trans hW) (.inr (by omega)))
    · exact .inl (HR2.out.held ((HK2.out.trans HK3.out).trans hW) (.inr (by omega)))
    · exact .inl (HR3.out.held (HK3.out.trans hW) (.inr (by omega)))
    · exact .inl (HR4.out.held hW (.inr (by omega)))
  have HFIN : Hid (∀ W, Kept 0 (w.heap.size + 3) w4 W → Ext w W → RetN w ⟨k, dp, dm, ds, da, db⟩ (.returned (.agg #[.int .i64 k, .slice A1 na c1, .slice A2 nb c2, .slice A3 ns c3, .slice A4 np c4, .slice A5 nq c5])) W) := fun W hW hE => ⟨⟨k, A1, na, c1, A2, nb, c2, A3, ns, c3, A4, np, c4, A5, nq, c5⟩, rfl, hfin W hW, hE⟩
  clear hfin
  have HSX : Hid (Six w4 (w.heap.size + 1)) := ⟨by omega, fun i hi => by
    rcases (show i = 0 ∨ i = 1 ∨ i = 2 ∨ i = 3 ∨ i = 4 ∨ i = 5 by omega) with rfl | rfl | rfl | rfl | rfl | rfl
    · exact ⟨_, r4_0⟩
    · exact ⟨_, r4_1⟩
    · exact ⟨_, r4_2⟩
    · exact ⟨_, r4_3⟩
    · exact ⟨_, r4_4⟩
    · exact ⟨_, r4_5⟩, fun i => (hFR4.out i)⟩
  go_wp2
  have HNB := Lib.hid (((HSX.out.set ⟨w.heap.size + 1 + 1, 4, none⟩ (.slice A4 np c4)).set ⟨w.heap.size + 1 + 1, 5, none⟩ (.slice A5 nq c5)).store ⟨k, A1, na, c1, A2, nb, c2, A3, ns, c3, A4, np, c4, A5, nq, c5⟩)
  refine bodyPost_ret (v := (NV.mk k A1 na c1 A2 nb c2 A3 ns c3 A4 np c4 A5 nq c5).val) ?_ ?_ ?_
  · exact results_not rfl rfl HNB.out
  · rfl
  · refine HFIN.out _ ?_ ?_
    · refine Kept.set ?_ (by simp; try omega) _
      refine Kept.set ?_ (by simp; try omega) _
      refine Kept.set ?_ (by simp; try omega) _
      refine Kept.set ?_ (by simp; try omega) _
      refine Kept.set ?_ (by simp; try omega) _
      refine Kept.set ?_ (by simp; try omega) _
      refine Kept.set ?_ (by simp; try omega) _
      refine Kept.set ?_ (by simp; try omega) _
      exact Kept.of_ext (Ext.refl _)
    · refine Ext.set ?_ (by simp; try omega) _
      refine Ext.set ?_ (by simp; try omega) _
      refine Ext.set ?_ (by simp; try omega) _
      refine Ext.set ?_ (by simp; try omega) _
      refine Ext.set ?_ (by simp; try omega) _
      refine Ext.set ?_ (by simp; try omega) _
      refine Ext.set ?_ (by simp; try omega) _
      refine Ext.set ?_ (by simp; try omega) _
      exact hE4
end Go.Proofs.YtohmnilkmljioaaGreat
