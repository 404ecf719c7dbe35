/- The walk of laws.FnPassings: exchanging passes, exchanging jugglers and rotating answer as the reference, and lead back. No condition. -/
import Derived.Test.YtlalaomimfdepaaPpc
import Derived.Test.YtlalaomimfdepaaLate
import Derived.Deep.CutRange
namespace Go.Proofs.Ytlalaomimfdepaa.fnPassings
set_option linter.unusedVariables false
set_option linter.unusedSimpArgs false
open Go.RowKit Go.Joins Go.Deep
theorem Holds.ext {cs : List (Addr × Value)} {w w' : World} (h : Holds cs w) (k : Ext w w') : Holds cs w' := fun c hc => (Below.cell k (World.block_lt_of_cell? w c.1 (h c hc))).trans (h c hc)
theorem blk_lt {w : World} {b : Nat} {o : Obj} (h : w.heap[b]? = some o) : b < w.heap.size := (Array.getElem?_eq_some_iff.1 h).1
set_option maxHeartbeats 16000000 in
set_option maxRecDepth 100000 in
theorem walk (A : Option Addr) (n c : Nat) (xs : List Int) (w : World) (hB : Byts w A n xs) :
    Calls Try.prog 5 #[.slice A n c] w fun e w' => e = .returned (.bool true) ∧ Below w.heap.size w w' := by
  have hsn := hB.small
  cases hl : decide (4096 < n)
  rotate_left
  · have HL := Lib.hid hl
    clear hl
    go_enter Try.func5, Try.ntmps5
    go_wp2_with fail
    (with_reducible refine (f6bigP_any _ _ _ _ hsn).mono ?_)
    rw [HL.out]
    rintro e w' ⟨rfl, rfl⟩
    go_wp2
    go_ret
    exact ⟨rfl, Ext.below (Ext.refl _)⟩
  have HL := Lib.hid hl
  clear hl
  go_enter Try.func5, Try.ntmps5
  go_wp2_with fail
  (with_reducible refine (f6bigP_any _ _ _ _ hsn).mono ?_)
  rw [HL.out]
  rintro e w' ⟨rfl, rfl⟩
  go_wp2_with fail
  (with_reducible refine (DrawExchangePasses_any A n c xs _ (hB.ext (by with_reducible (repeat (first | exact Ext.refl _ | apply Ext.drewN | apply Ext.drew | apply Ext.alloc | (refine Ext.set ?_ (by first | (simp; done) | (simp; omega) | omega) _) | (refine Ext.trans ?_ (by assumption))))))).mono ?_)
  rintro e w1 ⟨Ap, np, cp, Bp, mp, dp, ts, us, kk, rfl, hPp, hkk⟩
  have hp_1 : Ext w w1 := Ext.trans (by with_reducible (repeat (first | exact Ext.refl _ | apply Ext.drewN | apply Ext.drew | apply Ext.alloc | (refine Ext.set ?_ (by first | (simp; done) | (simp; omega) | omega) _) | (refine Ext.trans ?_ (by assumption))))) hPp.x
  have hE_1 : Ext w w1 := hp_1
  have lp1 := hPp.a.len
  have lp2 := hPp.b.len
  subst lp1 lp2
  have tp0_1 := hPp.a
  have tp1_1 := hPp.b
  clear hPp
  obtain ⟨⟨ys, zs, r0⟩, hex⟩ : ∃ t, exj ts us kk = t := ⟨_, rfl⟩
  have HEX := Lib.hid hex
  clear hex
  go_wp2_with fail
  (with_reducible refine (exch_th Ap Bp cp dp ts us kk (by omega) _ (tp0_1.ext (by with_reducible (repeat (first | exact Ext.refl _ | apply Ext.drewN | apply Ext.drew | apply Ext.alloc | (refine Ext.set ?_ (by first | (simp; done) | (simp; omega) | omega) _) | (refine Ext.trans ?_ (by assumption)))))) (tp1_1.ext (by with_reducible (repeat (first | exact Ext.refl _ | apply Ext.drewN | apply Ext.drew | apply Ext.alloc | (refine Ext.set ?_ (by first | (simp; done) | (simp; omega) | omega) _) | (refine Ext.trans ?_ (by assumption)))))) HEX.out).mono ?_)
  rintro e w2 ⟨Ax, cx, Bx, dx, rfl, tx0_2, tx1_2, hx⟩
  have hp_2 : Ext w1 w2 := Ext.trans (by with_reducible (repeat (first | exact Ext.refl _ | apply Ext.drewN | apply Ext.drew | apply Ext.alloc | (refine Ext.set ?_ (by first | (simp; done) | (simp; omega) | omega) _) | (refine Ext.trans ?_ (by assumption))))) hx
  have hE_2 : Ext w w2 := hE_1.trans hp_2
  have hXp_2 := blk_ext (heap_alloc_new w1 (.cells #[.slice Ap ts.length cp, .slice Bp us.length dp] 28)) hx
  have tp0_2 := tp0_1.ext hp_2
  have tp1_2 := tp1_1.ext hp_2
  obtain ⟨⟨q0p, q1p⟩, q2p, q3p⟩ := blk2 hXp_2
  have qzp := blk_lt hXp_2
  go_wp2_with fail
  (with_reducible refine (exchS_th Ap Bp cp dp ts us kk (by omega) _ (tp0_2.ext (by with_reducible (repeat (first | exact Ext.refl _ | apply Ext.drewN | apply Ext.drew | apply Ext.alloc | (refine Ext.set ?_ (by first | (simp; done) | (simp; omega) | omega) _) | (refine Ext.trans ?_ (by assumption)))))) (tp1_2.ext (by with_reducible (repeat (first | exact Ext.refl _ | apply Ext.drewN | apply Ext.drew | apply Ext.alloc | (refine Ext.set ?_ (by first | (simp; done) | (simp; omega) | omega) _) | (refine Ext.trans ?_ (by assumption)))))) HEX.out).mono ?_)
  rintro e w3 ⟨Am, cm, Bm, dm, rfl, tm0_3, tm1_3, hx⟩
  have hp_3 : Ext w2 w3 := Ext.trans (by with_reducible (repeat (first | exact Ext.refl _ | apply Ext.drewN | apply Ext.drew | apply Ext.alloc | (refine Ext.set ?_ (by first | (simp; done) | (simp; omega) | omega) _) | (refine Ext.trans ?_ (by assumption))))) hx
  have hE_3 : Ext w w3 := hE_2.trans hp_3
  have hXp_3 := blk_ext hXp_2 hp_3
  have hXx_3 := blk_ext (heap_alloc_new w2 (.cells #[.slice Ax ys.length cx, .slice Bx zs.length dx] 28)) hx
  have tp0_3 := tp0_2.ext hp_3
  have tp1_3 := tp1_2.ext hp_3
  have tx0_3 := tx0_2.ext hp_3
  have tx1_3 := tx1_2.ext hp_3
  clear q0p q1p q2p q3p qzp
  go_wp2_with fail
  (with_reducible refine (DrawSwapJugglers_any A n c xs _ (hB.ext (hE_3.trans (by with_reducible (repeat (first | exact Ext.refl _ | apply Ext.drewN | apply Ext.drew | apply Ext.alloc | (refine Ext.set ?_ (by first | (simp; done) | (simp; omega) | omega) _) | (refine Ext.trans ?_ (by assumption)))))))).mono ?_)
  rintro e w4 ⟨As, ns, cs, Bs, ms, ds, ss, vs, rfl, hPs⟩
  have hp_4 : Ext w3 w4 := Ext.trans (by with_reducible (repeat (first | exact Ext.refl _ | apply Ext.drewN | apply Ext.drew | apply Ext.alloc | (refine Ext.set ?_ (by first | (simp; done) | (simp; omega) | omega) _) | (refine Ext.trans ?_ (by assumption))))) hPs.x
  have hE_4 : Ext w w4 := hE_3.trans hp_4
  have hXp_4 := blk_ext hXp_3 hp_4
  have hXx_4 := blk_ext hXx_3 hp_4
  have hXm_4 := blk_ext (heap_alloc_new w3 (.cells #[.slice Am ys.length cm, .slice Bm zs.length dm] 28)) hPs.x
  have tp0_4 := tp0_3.ext hp_4
  have tp1_4 := tp1_3.ext hp_4
  have tx0_4 := tx0_3.ext hp_4
  have tx1_4 := tx1_3.ext hp_4
  have tm0_4 := tm0_3.ext hp_4
  have tm1_4 := tm1_3.ext hp_4
  have ls1 := hPs.a.len
  have ls2 := hPs.b.len
  subst ls1 ls2
  have ts0_4 := hPs.a
  have ts1_4 := hPs.b
  clear hPs
  obtain ⟨⟨y1, z1, r1⟩, hsw⟩ : ∃ t, swj ss vs = t := ⟨_, rfl⟩
  have HSW := Lib.hid hsw
  clear hsw
  go_wp2_with fail
  (with_reducible refine (swap_th As Bs cs ds ss vs _ (ts0_4.ext (by with_reducible (repeat (first | exact Ext.refl _ | apply Ext.drewN | apply Ext.drew | apply Ext.alloc | (refine Ext.set ?_ (by first | (simp; done) | (simp; omega) | omega) _) | (refine Ext.trans ?_ (by assumption)))))) (ts1_4.ext (by with_reducible (repeat (first | exact Ext.refl _ | apply Ext.drewN | apply Ext.drew | apply Ext.alloc | (refine Ext.set ?_ (by first | (simp; done) | (simp; omega) | omega) _) | (refine Ext.trans ?_ (by assumption)))))) HSW.out).mono ?_)
  rintro e w5 ⟨Ay, cy, By, dy, rfl, ty0_5, ty1_5, hx⟩
  have hp_5 : Ext w4 w5 := Ext.trans (by with_reducible (repeat (first | exact Ext.refl _ | apply Ext.drewN | apply Ext.drew | apply Ext.alloc | (refine Ext.set ?_ (by first | (simp; done) | (simp; omega) | omega) _) | (refine Ext.trans ?_ (by assumption))))) hx
  have hE_5 : Ext w w5 := hE_4.trans hp_5
  have hXp_5 := blk_ext hXp_4 hp_5
  have hXx_5 := blk_ext hXx_4 hp_5
  have hXm_5 := blk_ext hXm_4 hp_5
  have hXs_5 := blk_ext (heap_alloc_new w4 (.cells #[.slice As ss.length cs, .slice Bs vs.length ds] 28)) hx
  have tp0_5 := tp0_4.ext hp_5
  have tp1_5 := tp1_4.ext hp_5
  have tx0_5 := tx0_4.ext hp_5
  have tx1_5 := tx1_4.ext hp_5
  have tm0_5 := tm0_4.ext hp_5
  have tm1_5 := tm1_4.ext hp_5
  have ts0_5 := ts0_4.ext hp_5
  have ts1_5 := ts1_4.ext hp_5
  obtain ⟨⟨q0s, q1s⟩, q2s, q3s⟩ := blk2 hXs_5
  have qzs := blk_lt hXs_5
  go_wp2_with fail
  (with_reducible refine (swapS_th As Bs cs ds ss vs _ (ts0_5.ext (by with_reducible (repeat (first | exact Ext.refl _ | apply Ext.drewN | apply Ext.drew | apply Ext.alloc | (refine Ext.set ?_ (by first | (simp; done) | (simp; omega) | omega) _) | (refine Ext.trans ?_ (by assumption)))))) (ts1_5.ext (by with_reducible (repeat (first | exact Ext.refl _ | apply Ext.drewN | apply Ext.drew | apply Ext.alloc | (refine Ext.set ?_ (by first | (simp; done) | (simp; omega) | omega) _) | (refine Ext.trans ?_ (by assumption)))))) HSW.out).mono ?_)
  rintro e w6 ⟨Av, cv, Bv, dv, rfl, tv0_6, tv1_6, hx⟩
  have hp_6 : Ext w5 w6 := Ext.trans (by with_reducible (repeat (first | exact Ext.refl _ | apply Ext.drewN | apply Ext.drew | apply Ext.alloc | (refine Ext.set ?_ (by first | (simp; done) | (simp; omega) | omega) _) | (refine Ext.trans ?_ (by assumption))))) hx
  have hE_6 : Ext w w6 := hE_5.trans hp_6
  have hXp_6 := blk_ext hXp_5 hp_6
  have hXx_6 := blk_ext hXx_5 hp_6
  have hXm_6 := blk_ext hXm_5 hp_6
  have hXs_6 := blk_ext hXs_5 hp_6
  have hXy_6 := blk_ext (heap_alloc_new w5 (.cells #[.slice Ay y1.length cy, .slice By z1.length dy] 28)) hx
  have tp0_6 := tp0_5.ext hp_6
  have tp1_6 := tp1_5.ext hp_6
  have tx0_6 := tx0_5.ext hp_6
  have tx1_6 := tx1_5.ext hp_6
  have tm0_6 := tm0_5.ext hp_6
  have tm1_6 := tm1_5.ext hp_6
  have ts0_6 := ts0_5.ext hp_6
  have ts1_6 := ts1_5.ext hp_6
  have ty0_6 := ty0_5.ext hp_6
  have ty1_6 := ty1_5.ext hp_6
  clear q0s q1s q2s q3s qzs
  go_wp2_with fail
  (with_reducible refine (DrawRotatePassing_any A n c xs _ (hB.ext (hE_6.trans (by with_reducible (repeat (first | exact Ext.refl _ | apply Ext.drewN | apply Ext.drew | apply Ext.alloc | (refine Ext.set ?_ (by first | (simp; done) | (simp; omega) | omega) _) | (refine Ext.trans ?_ (by assumption)))))))).mono ?_)
  rintro e w7 ⟨Ar, nr, cr, Br, mr, dr, rs, qs, bb, rfl, hPr, hbb⟩
  have hp_7 : Ext w6 w7 := Ext.trans (by with_reducible (repeat (first | exact Ext.refl _ | apply Ext.drewN | apply Ext.drew | apply Ext.alloc | (refine Ext.set ?_ (by first | (simp; done) | (simp; omega) | omega) _) | (refine Ext.trans ?_ (by assumption))))) hPr.x
  have hE_7 : Ext w w7 := hE_6.trans hp_7
  have hXp_7 := blk_ext hXp_6 hp_7
  have hXx_7 := blk_ext hXx_6 hp_7
  have hXm_7 := blk_ext hXm_6 hp_7
  have hXs_7 := blk_ext hXs_6 hp_7
  have hXy_7 := blk_ext hXy_6 hp_7
  have hXv_7 := blk_ext (heap_alloc_new w6 (.cells #[.slice Av y1.length cv, .slice Bv z1.length dv] 28)) hPr.x
  have tp0_7 := tp0_6.ext hp_7
  have tp1_7 := tp1_6.ext hp_7
  have tx0_7 := tx0_6.ext hp_7
  have tx1_7 := tx1_6.ext hp_7
  have tm0_7 := tm0_6.ext hp_7
  have tm1_7 := tm1_6.ext hp_7
  have ts0_7 := ts0_6.ext hp_7
  have ts1_7 := ts1_6.ext hp_7
  have ty0_7 := ty0_6.ext hp_7
  have ty1_7 := ty1_6.ext hp_7
  have tv0_7 := tv0_6.ext hp_7
  have tv1_7 := tv1_6.ext hp_7
  have lr1 := hPr.a.len
  have lr2 := hPr.b.len
  subst lr1 lr2
  have tr0_7 := hPr.a
  have tr1_7 := hPr.b
  clear hPr
  obtain ⟨⟨y2, z2, r2⟩, hrt⟩ : ∃ t, rtp rs qs bb = t := ⟨_, rfl⟩
  have HRT := Lib.hid hrt
  clear hrt
  go_wp2_with fail
  (with_reducible refine (rot_th Ar Br cr dr rs qs bb _ (tr0_7.ext (by with_reducible (repeat (first | exact Ext.refl _ | apply Ext.drewN | apply Ext.drew | apply Ext.alloc | (refine Ext.set ?_ (by first | (simp; done) | (simp; omega) | omega) _) | (refine Ext.trans ?_ (by assumption)))))) (tr1_7.ext (by with_reducible (repeat (first | exact Ext.refl _ | apply Ext.drewN | apply Ext.drew | apply Ext.alloc | (refine Ext.set ?_ (by first | (simp; done) | (simp; omega) | omega) _) | (refine Ext.trans ?_ (by assumption)))))) hbb HRT.out).mono ?_)
  rintro e w8 ⟨Az, cz, Bz, dz, rfl, tz0_8, tz1_8, hx⟩
  have hp_8 : Ext w7 w8 := Ext.trans (by with_reducible (repeat (first | exact Ext.refl _ | apply Ext.drewN | apply Ext.drew | apply Ext.alloc | (refine Ext.set ?_ (by first | (simp; done) | (simp; omega) | omega) _) | (refine Ext.trans ?_ (by assumption))))) hx
  have hE_8 : Ext w w8 := hE_7.trans hp_8
  have hXp_8 := blk_ext hXp_7 hp_8
  have hXx_8 := blk_ext hXx_7 hp_8
  have hXm_8 := blk_ext hXm_7 hp_8
  have hXs_8 := blk_ext hXs_7 hp_8
  have hXy_8 := blk_ext hXy_7 hp_8
  have hXv_8 := blk_ext hXv_7 hp_8
  have hXr_8 := blk_ext (heap_alloc_new w7 (.cells #[.slice Ar rs.length cr, .slice Br qs.length dr] 28)) hx
  have tp0_8 := tp0_7.ext hp_8
  have tp1_8 := tp1_7.ext hp_8
  have tx0_8 := tx0_7.ext hp_8
  have tx1_8 := tx1_7.ext hp_8
  have tm0_8 := tm0_7.ext hp_8
  have tm1_8 := tm1_7.ext hp_8
  have ts0_8 := ts0_7.ext hp_8
  have ts1_8 := ts1_7.ext hp_8
  have ty0_8 := ty0_7.ext hp_8
  have ty1_8 := ty1_7.ext hp_8
  have tv0_8 := tv0_7.ext hp_8
  have tv1_8 := tv1_7.ext hp_8
  have tr0_8 := tr0_7.ext hp_8
  have tr1_8 := tr1_7.ext hp_8
  obtain ⟨⟨q0r, q1r⟩, q2r, q3r⟩ := blk2 hXr_8
  have qzr := blk_lt hXr_8
  go_wp2_with fail
  (with_reducible refine (rotS_th Ar Br cr dr rs qs bb _ (tr0_8.ext (by with_reducible (repeat (first | exact Ext.refl _ | apply Ext.drewN | apply Ext.drew | apply Ext.alloc | (refine Ext.set ?_ (by first | (simp; done) | (simp; omega) | omega) _) | (refine Ext.trans ?_ (by assumption)))))) (tr1_8.ext (by with_reducible (repeat (first | exact Ext.refl _ | apply Ext.drewN | apply Ext.drew | apply Ext.alloc | (refine Ext.set ?_ (by first | (simp; done) | (simp; omega) | omega) _) | (refine Ext.trans ?_ (by assumption)))))) hbb HRT.out).mono ?_)
  rintro e w9 ⟨At, ct, Bt, dt, rfl, tt0_9, tt1_9, hx⟩
  have hp_9 : Ext w8 w9 := Ext.trans (by with_reducible (repeat (first | exact Ext.refl _ | apply Ext.drewN | apply Ext.drew | apply Ext.alloc | (refine Ext.set ?_ (by first | (simp; done) | (simp; omega) | omega) _) | (refine Ext.trans ?_ (by assumption))))) hx
  have hE_9 : Ext w w9 := hE_8.trans hp_9
  have hXp_9 := blk_ext hXp_8 hp_9
  have hXx_9 := blk_ext hXx_8 hp_9
  have hXm_9 := blk_ext hXm_8 hp_9
  have hXs_9 := blk_ext hXs_8 hp_9
  have hXy_9 := blk_ext hXy_8 hp_9
  have hXv_9 := blk_ext hXv_8 hp_9
  have hXr_9 := blk_ext hXr_8 hp_9
  have hXz_9 := blk_ext (heap_alloc_new w8 (.cells #[.slice Az y2.length cz, .slice Bz z2.length dz] 28)) hx
  have tp0_9 := tp0_8.ext hp_9
  have tp1_9 := tp1_8.ext hp_9
  have tx0_9 := tx0_8.ext hp_9
  have tx1_9 := tx1_8.ext hp_9
  have tm0_9 := tm0_8.ext hp_9
  have tm1_9 := tm1_8.ext hp_9
  have ts0_9 := ts0_8.ext hp_9
  have ts1_9 := ts1_8.ext hp_9
  have ty0_9 := ty0_8.ext hp_9
  have ty1_9 := ty1_8.ext hp_9
  have tv0_9 := tv0_8.ext hp_9
  have tv1_9 := tv1_8.ext hp_9
  have tr0_9 := tr0_8.ext hp_9
  have tr1_9 := tr1_8.ext hp_9
  have tz0_9 := tz0_8.ext hp_9
  have tz1_9 := tz1_8.ext hp_9
  obtain ⟨v0, hv0⟩ : ∃ v, vpas ts us = v := ⟨_, rfl⟩
  have HV0 := Lib.hid hv0
  clear hv0
  clear q0r q1r q2r q3r qzr
  obtain ⟨⟨q0p, q1p⟩, q2p, q3p⟩ := blk2 hXp_9
  have qzp := blk_lt hXp_9
  obtain ⟨⟨q0x, q1x⟩, q2x, q3x⟩ := blk2 hXx_9
  have qzx := blk_lt hXx_9
  obtain ⟨⟨q0m, q1m⟩, q2m, q3m⟩ := blk2 hXm_9
  have qzm := blk_lt hXm_9
  obtain ⟨⟨q0y, q1y⟩, q2y, q3y⟩ := blk2 hXy_9
  have qzy := blk_lt hXy_9
  obtain ⟨⟨q0v, q1v⟩, q2v, q3v⟩ := blk2 hXv_9
  have qzv := blk_lt hXv_9
  obtain ⟨⟨q0z, q1z⟩, q2z, q3z⟩ := blk2 hXz_9
  have qzz := blk_lt hXz_9
  go_upto_region 12 with fail
  have hPA : Ext w9 (w9.alloc (.cells #[.slice At y2.length ct, .slice Bt z2.length dt] 28)) := (Ext.refl _).alloc _
  clear q0p q1p q2p q3p qzp
  clear q0x q1x q2x q3x qzx
  clear q0m q1m q2m q3m qzm
  clear q0y q1y q2y q3y qzy
  clear q0v q1v q2v q3v qzv
  clear q0z q1z q2z q3z qzz
  refine wp_region_held_drew (S := Holds [(⟨w1.heap.size, 0, none⟩, .slice Ap ts.length cp), (⟨w1.heap.size, 1, none⟩, .slice Bp us.length dp), (⟨w2.heap.size, 0, none⟩, .slice Ax ys.length cx), (⟨w2.heap.size, 1, none⟩, .slice Bx zs.length dx), (⟨w3.heap.size, 0, none⟩, .slice Am ys.length cm), (⟨w3.heap.size, 1, none⟩, .slice Bm zs.length dm), (⟨w5.heap.size, 0, none⟩, .slice Ay y1.length cy), (⟨w5.heap.size, 1, none⟩, .slice By z1.length dy), (⟨w6.heap.size, 0, none⟩, .slice Av y1.length cv), (⟨w6.heap.size, 1, none⟩, .slice Bv z1.length dv), (⟨w8.heap.size, 0, none⟩, .slice Az y2.length cz), (⟨w8.heap.size, 1, none⟩, .slice Bz z2.length dz), (⟨w9.heap.size, 0, none⟩, .slice At y2.length ct), (⟨w9.heap.size, 1, none⟩, .slice Bt z2.length dt)]) (by kernel_rfl) (by (simp only [Holds_cons, Holds_nil, and_true]); exact ⟨(blk2 (blk_ext hXp_9 hPA)).1.1, (blk2 (blk_ext hXp_9 hPA)).1.2, (blk2 (blk_ext hXx_9 hPA)).1.1, (blk2 (blk_ext hXx_9 hPA)).1.2, (blk2 (blk_ext hXm_9 hPA)).1.1, (blk2 (blk_ext hXm_9 hPA)).1.2, (blk2 (blk_ext hXy_9 hPA)).1.1, (blk2 (blk_ext hXy_9 hPA)).1.2, (blk2 (blk_ext hXv_9 hPA)).1.1, (blk2 (blk_ext hXv_9 hPA)).1.2, (blk2 (blk_ext hXz_9 hPA)).1.1, (blk2 (blk_ext hXz_9 hPA)).1.2, (blk2 (heap_alloc_new w9 (.cells #[.slice At y2.length ct, .slice Bt z2.length dt] 28))).1.1, (blk2 (heap_alloc_new w9 (.cells #[.slice At y2.length ct, .slice Bt z2.length dt] 28))).1.2⟩) (fun hHeld => ?_)
  refine wpAnyH_take (i := 0) (v := ?_) rfl (by kernel_rfl) (by kernel_rfl) (by kernel_rfl) (fun _ _ _ h => h) (Or.inl ⟨by rfl, ?hyh1⟩) hHeld ?_
  case hyh1 => ((intro wz hSw); (simp only [Holds_cons, Holds_nil, and_true] at hSw); (obtain ⟨_, _, _, _, _, _, _, _, _, _, _, _, _, _⟩ := hSw); go_simp; (try with_reducible rfl))
  (try simp only [List.getElem_toArray, List.getElem_cons_succ, List.getElem_cons_zero, Act.put, List.setIfInBounds_toArray, List.set_cons_zero, List.set_cons_succ])
  refine wpAnyH_take (i := 1) (v := ?_) rfl (by kernel_rfl) (by kernel_rfl) (by kernel_rfl) (fun _ _ _ h => h) (Or.inl ⟨by rfl, ?hyh2⟩) hHeld ?_
  case hyh2 => ((intro wz hSw); (simp only [Holds_cons, Holds_nil, and_true] at hSw); (obtain ⟨_, _, _, _, _, _, _, _, _, _, _, _, _, _⟩ := hSw); go_simp; (try with_reducible rfl))
  (try simp only [List.getElem_toArray, List.getElem_cons_succ, List.getElem_cons_zero, Act.put, List.setIfInBounds_toArray, List.set_cons_zero, List.set_cons_succ])
  refine wpAnyH_take (i := 2) (v := ?_) rfl (by kernel_rfl) (by kernel_rfl) (by kernel_rfl) (fun _ _ _ h => h) (Or.inl ⟨by rfl, ?hyh3⟩) hHeld ?_
  case hyh3 => ((intro wz hSw); (simp only [Holds_cons, Holds_nil, and_true] at hSw); (obtain ⟨_, _, _, _, _, _, _, _, _, _, _, _, _, _⟩ := hSw); go_simp; (try with_reducible rfl))
  (try simp only [List.getElem_toArray, List.getElem_cons_succ, List.getElem_cons_zero, Act.put, List.setIfInBounds_toArray, List.set_cons_zero, List.set_cons_succ])
  refine wpAnyH_take (i := 3) (v := ?_) rfl (by kernel_rfl) (by kernel_rfl) (by kernel_rfl) (fun _ _ _ h => h) (Or.inl ⟨by rfl, ?hyh4⟩) hHeld ?_
  case hyh4 => ((intro wz hSw); (simp only [Holds_cons, Holds_nil, and_true] at hSw); (obtain ⟨_, _, _, _, _, _, _, _, _, _, _, _, _, _⟩ := hSw); go_simp; (try with_reducible rfl))
  (try simp only [List.getElem_toArray, List.getElem_cons_succ, List.getElem_cons_zero, Act.put, List.setIfInBounds_toArray, List.set_cons_zero, List.set_cons_succ])
  refine wpAnyH_take (i := 4) (v := ?_) rfl (by kernel_rfl) (by kernel_rfl) (by kernel_rfl) (fun _ _ _ h => h) (Or.inl ⟨by rfl, ?hyh5⟩) hHeld ?_
  case hyh5 => ((intro wz hSw); (simp only [Holds_cons, Holds_nil, and_true] at hSw); (obtain ⟨_, _, _, _, _, _, _, _, _, _, _, _, _, _⟩ := hSw); go_simp; (try with_reducible rfl))
  (try simp only [List.getElem_toArray, List.getElem_cons_succ, List.getElem_cons_zero, Act.put, List.setIfInBounds_toArray, List.set_cons_zero, List.set_cons_succ])
  refine wpAnyH_take (i := 5) (v := ?_) rfl (by kernel_rfl) (by kernel_rfl) (by kernel_rfl) (fun _ _ _ h => h) (Or.inl ⟨by rfl, ?hyh6⟩) hHeld ?_
  case hyh6 => ((intro wz hSw); (simp only [Holds_cons, Holds_nil, and_true] at hSw); (obtain ⟨_, _, _, _, _, _, _, _, _, _, _, _, _, _⟩ := hSw); go_simp; (try with_reducible rfl))
  (try simp only [List.getElem_toArray, List.getElem_cons_succ, List.getElem_cons_zero, Act.put, List.setIfInBounds_toArray, List.set_cons_zero, List.set_cons_succ])
  refine wpAnyH_ready (rs := [6]) (by kernel_rfl) (by simp) ?_
  refine AllReadyH.cons rfl (fun K hK => ?_) AllReadyH.nil
  go_simp
  (with_reducible refine (same_th Ax Bx Am Bm cx dx cm dm ys zs _ (tx0_9.ext (hPA.trans ((Ext.refl _).drew))) (tx1_9.ext (hPA.trans ((Ext.refl _).drew))) (tm0_9.ext (hPA.trans ((Ext.refl _).drew))) (tm1_9.ext (hPA.trans ((Ext.refl _).drew)))).mono ?_)
  rintro e wa ⟨rfl, ha⟩
  (try go_wp2_with fail)
  refine hK.out _ _ (fnPassings.Holds.ext hHeld ha) (fun hHeldN => ?_)
  clear hK K hHeld
  have hHeld := hHeldN
  clear hHeldN
  (try simp only [List.getElem_toArray, List.getElem_cons_succ, List.getElem_cons_zero, Act.put, List.setIfInBounds_toArray, List.set_cons_zero, List.set_cons_succ])
  refine wpAnyH_take (i := 7) (v := ?_) rfl (by kernel_rfl) (by kernel_rfl) (by kernel_rfl) (fun _ _ _ h => h) (Or.inl ⟨by rfl, ?hyh7⟩) hHeld ?_
  case hyh7 => ((intro wz hSw); (simp only [Holds_cons, Holds_nil, and_true] at hSw); (obtain ⟨_, _, _, _, _, _, _, _, _, _, _, _, _, _⟩ := hSw); go_simp; (try with_reducible rfl))
  (try simp only [List.getElem_toArray, List.getElem_cons_succ, List.getElem_cons_zero, Act.put, List.setIfInBounds_toArray, List.set_cons_zero, List.set_cons_succ])
  refine wpAnyH_take (i := 8) (v := ?_) rfl (by kernel_rfl) (by kernel_rfl) (by kernel_rfl) (fun _ _ _ h => h) (Or.inl ⟨by rfl, ?hyh8⟩) hHeld ?_
  case hyh8 => ((intro wz hSw); (simp only [Holds_cons, Holds_nil, and_true] at hSw); (obtain ⟨_, _, _, _, _, _, _, _, _, _, _, _, _, _⟩ := hSw); go_simp; (try with_reducible rfl))
  (try simp only [List.getElem_toArray, List.getElem_cons_succ, List.getElem_cons_zero, Act.put, List.setIfInBounds_toArray, List.set_cons_zero, List.set_cons_succ])
  refine wpAnyH_take (i := 9) (v := ?_) rfl (by kernel_rfl) (by kernel_rfl) (by kernel_rfl) (fun _ _ _ h => h) (Or.inl ⟨by rfl, ?hyh9⟩) hHeld ?_
  case hyh9 => ((intro wz hSw); (simp only [Holds_cons, Holds_nil, and_true] at hSw); (obtain ⟨_, _, _, _, _, _, _, _, _, _, _, _, _, _⟩ := hSw); go_simp; (try with_reducible rfl))
  (try simp only [List.getElem_toArray, List.getElem_cons_succ, List.getElem_cons_zero, Act.put, List.setIfInBounds_toArray, List.set_cons_zero, List.set_cons_succ])
  refine wpAnyH_take (i := 10) (v := ?_) rfl (by kernel_rfl) (by kernel_rfl) (by kernel_rfl) (fun _ _ _ h => h) (Or.inl ⟨by rfl, ?hyh10⟩) hHeld ?_
  case hyh10 => ((intro wz hSw); (simp only [Holds_cons, Holds_nil, and_true] at hSw); (obtain ⟨_, _, _, _, _, _, _, _, _, _, _, _, _, _⟩ := hSw); go_simp; (try with_reducible rfl))
  (try simp only [List.getElem_toArray, List.getElem_cons_succ, List.getElem_cons_zero, Act.put, List.setIfInBounds_toArray, List.set_cons_zero, List.set_cons_succ])
  refine wpAnyH_take (i := 11) (v := ?_) rfl (by kernel_rfl) (by kernel_rfl) (by kernel_rfl) (fun _ _ _ h => h) (Or.inl ⟨by rfl, ?hyh11⟩) hHeld ?_
  case hyh11 => ((intro wz hSw); (simp only [Holds_cons, Holds_nil, and_true] at hSw); (obtain ⟨_, _, _, _, _, _, _, _, _, _, _, _, _, _⟩ := hSw); go_simp; (try with_reducible rfl))
  (try simp only [List.getElem_toArray, List.getElem_cons_succ, List.getElem_cons_zero, Act.put, List.setIfInBounds_toArray, List.set_cons_zero, List.set_cons_succ])
  refine wpAnyH_take (i := 12) (v := ?_) rfl (by kernel_rfl) (by kernel_rfl) (by kernel_rfl) (fun _ _ _ h => h) (Or.inl ⟨by rfl, ?hyh12⟩) hHeld ?_
  case hyh12 => ((intro wz hSw); (simp only [Holds_cons, Holds_nil, and_true] at hSw); (obtain ⟨_, _, _, _, _, _, _, _, _, _, _, _, _, _⟩ := hSw); go_simp; (try with_reducible rfl))
  (try simp only [List.getElem_toArray, List.getElem_cons_succ, List.getElem_cons_zero, Act.put, List.setIfInBounds_toArray, List.set_cons_zero, List.set_cons_succ])
  refine wpAnyH_take (i := 13) (v := ?_) rfl (by kernel_rfl) (by kernel_rfl) (by kernel_rfl) (fun _ _ _ h => h) (Or.inl ⟨by rfl, ?hyh13⟩) hHeld ?_
  case hyh13 => ((intro wz hSw); (simp only [Holds_cons, Holds_nil, and_true] at hSw); (obtain ⟨_, _, _, _, _, _, _, _, _, _, _, _, _, _⟩ := hSw); go_simp; (try with_reducible rfl))
  (try simp only [List.getElem_toArray, List.getElem_cons_succ, List.getElem_cons_zero, Act.put, List.setIfInBounds_toArray, List.set_cons_zero, List.set_cons_succ])
  refine wpAnyH_take (i := 14) (v := ?_) rfl (by kernel_rfl) (by kernel_rfl) (by kernel_rfl) (fun _ _ _ h => h) (Or.inl ⟨by rfl, ?hyh14⟩) hHeld ?_
  case hyh14 => ((intro wz hSw); (simp only [Holds_cons, Holds_nil, and_true] at hSw); (obtain ⟨_, _, _, _, _, _, _, _, _, _, _, _, _, _⟩ := hSw); go_simp; (try with_reducible rfl))
  (try simp only [List.getElem_toArray, List.getElem_cons_succ, List.getElem_cons_zero, Act.put, List.setIfInBounds_toArray, List.set_cons_zero, List.set_cons_succ])
  refine wpAnyH_take (i := 15) (v := ?_) rfl (by kernel_rfl) (by kernel_rfl) (by kernel_rfl) (fun _ _ _ h => h) (Or.inl ⟨by rfl, ?hyh15⟩) hHeld ?_
  case hyh15 => ((intro wz hSw); (simp only [Holds_cons, Holds_nil, and_true] at hSw); (obtain ⟨_, _, _, _, _, _, _, _, _, _, _, _, _, _⟩ := hSw); go_simp; (try with_reducible rfl))
  (try simp only [List.getElem_toArray, List.getElem_cons_succ, List.getElem_cons_zero, Act.put, List.setIfInBounds_toArray, List.set_cons_zero, List.set_cons_succ])
  refine wpAnyH_take (i := 16) (v := ?_) rfl (by kernel_rfl) (by kernel_rfl) (by kernel_rfl) (fun _ _ _ h => h) (Or.inl ⟨by rfl, ?hyh16⟩) hHeld ?_
  case hyh16 => ((intro wz hSw); (simp only [Holds_cons, Holds_nil, and_true] at hSw); (obtain ⟨_, _, _, _, _, _, _, _, _, _, _, _, _, _⟩ := hSw); go_simp; (try with_reducible rfl))
  (try simp only [List.getElem_toArray, List.getElem_cons_succ, List.getElem_cons_zero, Act.put, List.setIfInBounds_toArray, List.set_cons_zero, List.set_cons_succ])
  refine wpAnyH_ready (rs := [17]) (by kernel_rfl) (by simp) ?_
  refine AllReadyH.cons rfl (fun K hK => ?_) AllReadyH.nil
  go_simp
  (with_reducible refine (same_th Ay By Av Bv cy dy cv dv y1 z1 _ (ty0_9.ext ((hPA.trans ((Ext.refl _).drew)).trans ha)) (ty1_9.ext ((hPA.trans ((Ext.refl _).drew)).trans ha)) (tv0_9.ext ((hPA.trans ((Ext.refl _).drew)).trans ha)) (tv1_9.ext ((hPA.trans ((Ext.refl _).drew)).trans ha))).mono ?_)
  rintro e wb ⟨rfl, hb⟩
  (try go_wp2_with fail)
  refine hK.out _ _ (fnPassings.Holds.ext hHeld hb) (fun hHeldN => ?_)
  clear hK K hHeld
  have hHeld := hHeldN
  clear hHeldN
  (try simp only [List.getElem_toArray, List.getElem_cons_succ, List.getElem_cons_zero, Act.put, List.setIfInBounds_toArray, List.set_cons_zero, List.set_cons_succ])
  refine wpAnyH_take (i := 18) (v := ?_) rfl (by kernel_rfl) (by kernel_rfl) (by kernel_rfl) (fun _ _ _ h => h) (Or.inl ⟨by rfl, ?hyh17⟩) hHeld ?_
  case hyh17 => ((intro wz hSw); (simp only [Holds_cons, Holds_nil, and_true] at hSw); (obtain ⟨_, _, _, _, _, _, _, _, _, _, _, _, _, _⟩ := hSw); go_simp; (try with_reducible rfl))
  (try simp only [List.getElem_toArray, List.getElem_cons_succ, List.getElem_cons_zero, Act.put, List.setIfInBounds_toArray, List.set_cons_zero, List.set_cons_succ])
  refine wpAnyH_take (i := 19) (v := ?_) rfl (by kernel_rfl) (by kernel_rfl) (by kernel_rfl) (fun _ _ _ h => h) (Or.inl ⟨by rfl, ?hyh18⟩) hHeld ?_
  case hyh18 => ((intro wz hSw); (simp only [Holds_cons, Holds_nil, and_true] at hSw); (obtain ⟨_, _, _, _, _, _, _, _, _, _, _, _, _, _⟩ := hSw); go_simp; (try with_reducible rfl))
  (try simp only [List.getElem_toArray, List.getElem_cons_succ, List.getElem_cons_zero, Act.put, List.setIfInBounds_toArray, List.set_cons_zero, List.set_cons_succ])
  refine wpAnyH_take (i := 20) (v := ?_) rfl (by kernel_rfl) (by kernel_rfl) (by kernel_rfl) (fun _ _ _ h => h) (Or.inl ⟨by rfl, ?hyh19⟩) hHeld ?_
  case hyh19 => ((intro wz hSw); (simp only [Holds_cons, Holds_nil, and_true] at hSw); (obtain ⟨_, _, _, _, _, _, _, _, _, _, _, _, _, _⟩ := hSw); go_simp; (try with_reducible rfl))
  (try simp only [List.getElem_toArray, List.getElem_cons_succ, List.getElem_cons_zero, Act.put, List.setIfInBounds_toArray, List.set_cons_zero, List.set_cons_succ])
  refine wpAnyH_take (i := 21) (v := ?_) rfl (by kernel_rfl) (by kernel_rfl) (by kernel_rfl) (fun _ _ _ h => h) (Or.inl ⟨by rfl, ?hyh20⟩) hHeld ?_
  case hyh20 => ((intro wz hSw); (simp only [Holds_cons, Holds_nil, and_true] at hSw); (obtain ⟨_, _, _, _, _, _, _, _, _, _, _, _, _, _⟩ := hSw); go_simp; (try with_reducible rfl))
  (try simp only [List.getElem_toArray, List.getElem_cons_succ, List.getElem_cons_zero, Act.put, List.setIfInBounds_toArray, List.set_cons_zero, List.set_cons_succ])
  refine wpAnyH_take (i := 22) (v := ?_) rfl (by kernel_rfl) (by kernel_rfl) (by kernel_rfl) (fun _ _ _ h => h) (Or.inl ⟨by rfl, ?hyh21⟩) hHeld ?_
  case hyh21 => ((intro wz hSw); (simp only [Holds_cons, Holds_nil, and_true] at hSw); (obtain ⟨_, _, _, _, _, _, _, _, _, _, _, _, _, _⟩ := hSw); go_simp; (try with_reducible rfl))
  (try simp only [List.getElem_toArray, List.getElem_cons_succ, List.getElem_cons_zero, Act.put, List.setIfInBounds_toArray, List.set_cons_zero, List.set_cons_succ])
  refine wpAnyH_take (i := 23) (v := ?_) rfl (by kernel_rfl) (by kernel_rfl) (by kernel_rfl) (fun _ _ _ h => h) (Or.inl ⟨by rfl, ?hyh22⟩) hHeld ?_
  case hyh22 => ((intro wz hSw); (simp only [Holds_cons, Holds_nil, and_true] at hSw); (obtain ⟨_, _, _, _, _, _, _, _, _, _, _, _, _, _⟩ := hSw); go_simp; (try with_reducible rfl))
  (try simp only [List.getElem_toArray, List.getElem_cons_succ, List.getElem_cons_zero, Act.put, List.setIfInBounds_toArray, List.set_cons_zero, List.set_cons_succ])
  refine wpAnyH_take (i := 24) (v := ?_) rfl (by kernel_rfl) (by kernel_rfl) (by kernel_rfl) (fun _ _ _ h => h) (Or.inl ⟨by rfl, ?hyh23⟩) hHeld ?_
  case hyh23 => ((intro wz hSw); (simp only [Holds_cons, Holds_nil, and_true] at hSw); (obtain ⟨_, _, _, _, _, _, _, _, _, _, _, _, _, _⟩ := hSw); go_simp; (try with_reducible rfl))
  (try simp only [List.getElem_toArray, List.getElem_cons_succ, List.getElem_cons_zero, Act.put, List.setIfInBounds_toArray, List.set_cons_zero, List.set_cons_succ])
  refine wpAnyH_take (i := 25) (v := ?_) rfl (by kernel_rfl) (by kernel_rfl) (by kernel_rfl) (fun _ _ _ h => h) (Or.inl ⟨by rfl, ?hyh24⟩) hHeld ?_
  case hyh24 => ((intro wz hSw); (simp only [Holds_cons, Holds_nil, and_true] at hSw); (obtain ⟨_, _, _, _, _, _, _, _, _, _, _, _, _, _⟩ := hSw); go_simp; (try with_reducible rfl))
  (try simp only [List.getElem_toArray, List.getElem_cons_succ, List.getElem_cons_zero, Act.put, List.setIfInBounds_toArray, List.set_cons_zero, List.set_cons_succ])
  refine wpAnyH_take (i := 26) (v := ?_) rfl (by kernel_rfl) (by kernel_rfl) (by kernel_rfl) (fun _ _ _ h => h) (Or.inl ⟨by rfl, ?hyh25⟩) hHeld ?_
  case hyh25 => ((intro wz hSw); (simp only [Holds_cons, Holds_nil, and_true] at hSw); (obtain ⟨_, _, _, _, _, _, _, _, _, _, _, _, _, _⟩ := hSw); go_simp; (try with_reducible rfl))
  (try simp only [List.getElem_toArray, List.getElem_cons_succ, List.getElem_cons_zero, Act.put, List.setIfInBounds_toArray, List.set_cons_zero, List.set_cons_succ])
  refine wpAnyH_take (i := 27) (v := ?_) rfl (by kernel_rfl) (by kernel_rfl) (by kernel_rfl) (fun _ _ _ h => h) (Or.inl ⟨by rfl, ?hyh26⟩) hHeld ?_
  case hyh26 => ((intro wz hSw); (simp only [Holds_cons, Holds_nil, and_true] at hSw); (obtain ⟨_, _, _, _, _, _, _, _, _, _, _, _, _, _⟩ := hSw); go_simp; (try with_reducible rfl))
  (try simp only [List.getElem_toArray, List.getElem_cons_succ, List.getElem_cons_zero, Act.put, List.setIfInBounds_toArray, List.set_cons_zero, List.set_cons_succ])
  refine wpAnyH_ready (rs := [28]) (by kernel_rfl) (by simp) ?_
  refine AllReadyH.cons rfl (fun K hK => ?_) AllReadyH.nil
  go_simp
  (with_reducible refine (same_th Az Bz At Bt cz dz ct dt y2 z2 _ (tz0_9.ext (((hPA.trans ((Ext.refl _).drew)).trans ha).trans hb)) (tz1_9.ext (((hPA.trans ((Ext.refl _).drew)).trans ha).trans hb)) (tt0_9.ext (((hPA.trans ((Ext.refl _).drew)).trans ha).trans hb)) (tt1_9.ext (((hPA.trans ((Ext.refl _).drew)).trans ha).trans hb))).mono ?_)
  rintro e wcc ⟨rfl, hcc⟩
  (try go_wp2_with fail)
  refine hK.out _ _ (fnPassings.Holds.ext hHeld hcc) (fun hHeldN => ?_)
  clear hK K hHeld
  have hHeld := hHeldN
  clear hHeldN
  (try simp only [List.getElem_toArray, List.getElem_cons_succ, List.getElem_cons_zero, Act.put, List.setIfInBounds_toArray, List.set_cons_zero, List.set_cons_succ])
  refine wpAnyH_take (i := 29) (v := ?_) rfl (by kernel_rfl) (by kernel_rfl) (by kernel_rfl) (fun _ _ _ h => h) (Or.inl ⟨by rfl, ?hyh27⟩) hHeld ?_
  case hyh27 => ((intro wz hSw); (simp only [Holds_cons, Holds_nil, and_true] at hSw); (obtain ⟨_, _, _, _, _, _, _, _, _, _, _, _, _, _⟩ := hSw); go_simp; (try with_reducible rfl))
  (try simp only [List.getElem_toArray, List.getElem_cons_succ, List.getElem_cons_zero, Act.put, List.setIfInBounds_toArray, List.set_cons_zero, List.set_cons_succ])
  refine wpAnyH_take (i := 30) (v := ?_) rfl (by kernel_rfl) (by kernel_rfl) (by kernel_rfl) (fun _ _ _ h => h) (Or.inl ⟨by rfl, ?hyh28⟩) hHeld ?_
  case hyh28 => ((intro wz hSw); (simp only [Holds_cons, Holds_nil, and_true] at hSw); (obtain ⟨_, _, _, _, _, _, _, _, _, _, _, _, _, _⟩ := hSw); go_simp; (try with_reducible rfl))
  (try simp only [List.getElem_toArray, List.getElem_cons_succ, List.getElem_cons_zero, Act.put, List.setIfInBounds_toArray, List.set_cons_zero, List.set_cons_succ])
  refine wpAnyH_take (i := 31) (v := ?_) rfl (by kernel_rfl) (by kernel_rfl) (by kernel_rfl) (fun _ _ _ h => h) (Or.inl ⟨by rfl, ?hyh29⟩) hHeld ?_
  case hyh29 => ((intro wz hSw); (simp only [Holds_cons, Holds_nil, and_true] at hSw); (obtain ⟨_, _, _, _, _, _, _, _, _, _, _, _, _, _⟩ := hSw); go_simp; (try with_reducible rfl))
  (try simp only [List.getElem_toArray, List.getElem_cons_succ, List.getElem_cons_zero, Act.put, List.setIfInBounds_toArray, List.set_cons_zero, List.set_cons_succ])
  refine wpAnyH_take (i := 32) (v := ?_) rfl (by kernel_rfl) (by kernel_rfl) (by kernel_rfl) (fun _ _ _ h => h) (Or.inl ⟨by rfl, ?hyh30⟩) hHeld ?_
  case hyh30 => ((intro wz hSw); (simp only [Holds_cons, Holds_nil, and_true] at hSw); (obtain ⟨_, _, _, _, _, _, _, _, _, _, _, _, _, _⟩ := hSw); go_simp; (try with_reducible rfl))
  (try simp only [List.getElem_toArray, List.getElem_cons_succ, List.getElem_cons_zero, Act.put, List.setIfInBounds_toArray, List.set_cons_zero, List.set_cons_succ])
  refine wpAnyH_take (i := 34) (v := ?_) rfl (by kernel_rfl) (by kernel_rfl) (by kernel_rfl) (fun _ _ _ h => h) (Or.inl ⟨by rfl, ?hyh31⟩) hHeld ?_
  case hyh31 => ((intro wz hSw); (simp only [Holds_cons, Holds_nil, and_true] at hSw); (obtain ⟨_, _, _, _, _, _, _, _, _, _, _, _, _, _⟩ := hSw); go_simp; (try with_reducible rfl))
  (try simp only [List.getElem_toArray, List.getElem_cons_succ, List.getElem_cons_zero, Act.put, List.setIfInBounds_toArray, List.set_cons_zero, List.set_cons_succ])
  refine wpAnyH_ready (rs := [33]) (by kernel_rfl) (by simp) ?_
  refine AllReadyH.cons rfl (fun K hK => ?_) AllReadyH.nil
  go_simp
  (with_reducible refine (valid_th Ap Bp cp dp ts us _ (tp0_9.ext ((((hPA.trans ((Ext.refl _).drew)).trans ha).trans hb).trans hcc)) (tp1_9.ext ((((hPA.trans ((Ext.refl _).drew)).trans ha).trans hb).trans hcc)) v0 HV0).mono ?_)
  rintro e wd ⟨rfl, hd⟩
  (try go_wp2_with fail)
  refine hK.out _ _ (fnPassings.Holds.ext hHeld hd) (fun hHeldN => ?_)
  clear hK K hHeld
  have hHeld := hHeldN
  clear hHeldN
  (try simp only [List.getElem_toArray, List.getElem_cons_succ, List.getElem_cons_zero, Act.put, List.setIfInBounds_toArray, List.set_cons_zero, List.set_cons_succ])
  refine wpAnyH_ready (rs := [35]) (by kernel_rfl) (by simp) ?_
  refine AllReadyH.cons rfl (fun K hK => ?_) AllReadyH.nil
  go_simp
  (with_reducible refine (validS_th Ap Bp cp dp ts us _ (tp0_9.ext (((((hPA.trans ((Ext.refl _).drew)).trans ha).trans hb).trans hcc).trans hd)) (tp1_9.ext (((((hPA.trans ((Ext.refl _).drew)).trans ha).trans hb).trans hcc).trans hd)) v0 HV0).mono ?_)
  rintro e we ⟨rfl, he⟩
  (try go_wp2_with fail)
  refine hK.out _ _ (fnPassings.Holds.ext hHeld he) (fun hHeldN => ?_)
  clear hK K hHeld
  have hHeld := hHeldN
  clear hHeldN
  (try simp only [List.getElem_toArray, List.getElem_cons_succ, List.getElem_cons_zero, Act.put, List.setIfInBounds_toArray, List.set_cons_zero, List.set_cons_succ])
  refine wpAnyH_take (i := 36) (v := ?_) rfl (by kernel_rfl) (by kernel_rfl) (by kernel_rfl) (fun _ _ _ h => h) (Or.inl ⟨by rfl, ?hyh32⟩) hHeld ?_
  case hyh32 => ((intro wz hSw); (simp only [Holds_cons, Holds_nil, and_true] at hSw); (obtain ⟨_, _, _, _, _, _, _, _, _, _, _, _, _, _⟩ := hSw); go_simp; (try with_reducible rfl))
  (try simp only [List.getElem_toArray, List.getElem_cons_succ, List.getElem_cons_zero, Act.put, List.setIfInBounds_toArray, List.set_cons_zero, List.set_cons_succ])
  refine wpAnyH_take (i := 37) (v := ?_) rfl (by kernel_rfl) (by kernel_rfl) (by kernel_rfl) (fun _ _ _ h => h) (Or.inl ⟨by rfl, ?hyh33⟩) hHeld ?_
  case hyh33 => ((intro wz hSw); (simp only [Holds_cons, Holds_nil, and_true] at hSw); (obtain ⟨_, _, _, _, _, _, _, _, _, _, _, _, _, _⟩ := hSw); go_simp; (try with_reducible rfl))
  (try simp only [List.getElem_toArray, List.getElem_cons_succ, List.getElem_cons_zero, Act.put, List.setIfInBounds_toArray, List.set_cons_zero, List.set_cons_succ])
  refine wpAnyH_done (by kernel_rfl) ?_ _
  clear hHeld
  obtain ⟨w10, hwn⟩ : ∃ w10 : World, w10 = we := ⟨_, rfl⟩
  subst hwn
  have hxT : Ext (w9.alloc (.cells #[.slice At y2.length ct, .slice Bt z2.length dt] 28)) w10 := ((((((Ext.refl _).drew).trans ha).trans hb).trans hcc).trans hd).trans he
  have hp_10 : Ext w9 w10 := Ext.trans (by with_reducible (repeat (first | exact Ext.refl _ | apply Ext.drewN | apply Ext.drew | apply Ext.alloc | (refine Ext.set ?_ (by first | (simp; done) | (simp; omega) | omega) _) | (refine Ext.trans ?_ (by assumption))))) hxT
  have hE_10 : Ext w w10 := hE_9.trans hp_10
  have hXp_10 := blk_ext hXp_9 hp_10
  have hXx_10 := blk_ext hXx_9 hp_10
  have hXm_10 := blk_ext hXm_9 hp_10
  have hXs_10 := blk_ext hXs_9 hp_10
  have hXy_10 := blk_ext hXy_9 hp_10
  have hXv_10 := blk_ext hXv_9 hp_10
  have hXr_10 := blk_ext hXr_9 hp_10
  have hXz_10 := blk_ext hXz_9 hp_10
  have hXt_10 := blk_ext (heap_alloc_new w9 (.cells #[.slice At y2.length ct, .slice Bt z2.length dt] 28)) hxT
  have tp0_10 := tp0_9.ext hp_10
  have tp1_10 := tp1_9.ext hp_10
  have tx0_10 := tx0_9.ext hp_10
  have tx1_10 := tx1_9.ext hp_10
  have tm0_10 := tm0_9.ext hp_10
  have tm1_10 := tm1_9.ext hp_10
  have ts0_10 := ts0_9.ext hp_10
  have ts1_10 := ts1_9.ext hp_10
  have ty0_10 := ty0_9.ext hp_10
  have ty1_10 := ty1_9.ext hp_10
  have tv0_10 := tv0_9.ext hp_10
  have tv1_10 := tv1_9.ext hp_10
  have tr0_10 := tr0_9.ext hp_10
  have tr1_10 := tr1_9.ext hp_10
  have tz0_10 := tz0_9.ext hp_10
  have tz1_10 := tz1_9.ext hp_10
  have tt0_10 := tt0_9.ext hp_10
  have tt1_10 := tt1_9.ext hp_10
  clear hPA
  clear ha hb hcc hd he
  clear hxT
  have hcs := swj_cases HSW.out
  go_upto_if 117 with fail
  go_cut [20, 21] from 116 to 135 (fun _ _ wx => Ext w10 wx)
  case first =>
    rcases hcs with hr | ⟨hr, hy, hz, hvy, hsw2⟩
    · have h0 : (r1 == 0) = false := by simpa using hr
      clear hr
      go_wp2
      go_meet
      exact Ext.refl _
    subst hr
    obtain rfl := hy.symm
    obtain rfl := hz.symm
    have HVY := Lib.hid hvy
    have HSW2 := Lib.hid hsw2
    clear hvy hsw2
    obtain ⟨⟨q0y, q1y⟩, q2y, q3y⟩ := blk2 hXy_10
    have qzy := blk_lt hXy_10
    go_wp2_with fail
    (with_reducible refine (swap_th Ay By cy dy vs ss _ (ty0_10.ext (by with_reducible (repeat (first | exact Ext.refl _ | apply Ext.drewN | apply Ext.drew | apply Ext.alloc | (refine Ext.set ?_ (by first | (simp; done) | (simp; omega) | omega) _) | (refine Ext.trans ?_ (by assumption)))))) (ty1_10.ext (by with_reducible (repeat (first | exact Ext.refl _ | apply Ext.drewN | apply Ext.drew | apply Ext.alloc | (refine Ext.set ?_ (by first | (simp; done) | (simp; omega) | omega) _) | (refine Ext.trans ?_ (by assumption)))))) HSW2.out).mono ?_)
    rintro e w11 ⟨Ab, cb, Bb, db, rfl, tb0_11, tb1_11, hx⟩
    have hp_11 : Ext w10 w11 := Ext.trans (by with_reducible (repeat (first | exact Ext.refl _ | apply Ext.drewN | apply Ext.drew | apply Ext.alloc | (refine Ext.set ?_ (by first | (simp; done) | (simp; omega) | omega) _) | (refine Ext.trans ?_ (by assumption))))) hx
    have hE_11 : Ext w w11 := hE_10.trans hp_11
    have hXp_11 := blk_ext hXp_10 hp_11
    have hXx_11 := blk_ext hXx_10 hp_11
    have hXm_11 := blk_ext hXm_10 hp_11
    have hXs_11 := blk_ext hXs_10 hp_11
    have hXy_11 := blk_ext hXy_10 hp_11
    have hXv_11 := blk_ext hXv_10 hp_11
    have hXr_11 := blk_ext hXr_10 hp_11
    have hXz_11 := blk_ext hXz_10 hp_11
    have hXt_11 := blk_ext hXt_10 hp_11
    have tp0_11 := tp0_10.ext hp_11
    have tp1_11 := tp1_10.ext hp_11
    have tx0_11 := tx0_10.ext hp_11
    have tx1_11 := tx1_10.ext hp_11
    have tm0_11 := tm0_10.ext hp_11
    have tm1_11 := tm1_10.ext hp_11
    have ts0_11 := ts0_10.ext hp_11
    have ts1_11 := ts1_10.ext hp_11
    have ty0_11 := ty0_10.ext hp_11
    have ty1_11 := ty1_10.ext hp_11
    have tv0_11 := tv0_10.ext hp_11
    have tv1_11 := tv1_10.ext hp_11
    have tr0_11 := tr0_10.ext hp_11
    have tr1_11 := tr1_10.ext hp_11
    have tz0_11 := tz0_10.ext hp_11
    have tz1_11 := tz1_10.ext hp_11
    have tt0_11 := tt0_10.ext hp_11
    have tt1_11 := tt1_10.ext hp_11
    clear q0y q1y q2y q3y qzy
    obtain ⟨⟨q0s, q1s⟩, q2s, q3s⟩ := blk2 hXs_11
    have qzs := blk_lt hXs_11
    obtain ⟨⟨q0y, q1y⟩, q2y, q3y⟩ := blk2 hXy_11
    have qzy := blk_lt hXy_11
    go_wp2_with fail
    (with_reducible refine (same_th Ab Bb As Bs cb db cs ds ss vs _ (tb0_11.ext (by with_reducible (repeat (first | exact Ext.refl _ | apply Ext.drewN | apply Ext.drew | apply Ext.alloc | (refine Ext.set ?_ (by first | (simp; done) | (simp; omega) | omega) _) | (refine Ext.trans ?_ (by assumption)))))) (tb1_11.ext (by with_reducible (repeat (first | exact Ext.refl _ | apply Ext.drewN | apply Ext.drew | apply Ext.alloc | (refine Ext.set ?_ (by first | (simp; done) | (simp; omega) | omega) _) | (refine Ext.trans ?_ (by assumption)))))) (ts0_11.ext (by with_reducible (repeat (first | exact Ext.refl _ | apply Ext.drewN | apply Ext.drew | apply Ext.alloc | (refine Ext.set ?_ (by first | (simp; done) | (simp; omega) | omega) _) | (refine Ext.trans ?_ (by assumption)))))) (ts1_11.ext (by with_reducible (repeat (first | exact Ext.refl _ | apply Ext.drewN | apply Ext.drew | apply Ext.alloc | (refine Ext.set ?_ (by first | (simp; done) | (simp; omega) | omega) _) | (refine Ext.trans ?_ (by assumption))))))).mono ?_)
    rintro e w12 ⟨rfl, hx⟩
    have hp_12 : Ext w11 w12 := Ext.trans (by with_reducible (repeat (first | exact Ext.refl _ | apply Ext.drewN | apply Ext.drew | apply Ext.alloc | (refine Ext.set ?_ (by first | (simp; done) | (simp; omega) | omega) _) | (refine Ext.trans ?_ (by assumption))))) hx
    have hE_12 : Ext w w12 := hE_11.trans hp_12
    have hXp_12 := blk_ext hXp_11 hp_12
    have hXx_12 := blk_ext hXx_11 hp_12
    have hXm_12 := blk_ext hXm_11 hp_12
    have hXs_12 := blk_ext hXs_11 hp_12
    have hXy_12 := blk_ext hXy_11 hp_12
    have hXv_12 := blk_ext hXv_11 hp_12
    have hXr_12 := blk_ext hXr_11 hp_12
    have hXz_12 := blk_ext hXz_11 hp_12
    have hXt_12 := blk_ext hXt_11 hp_12
    have hXb_12 := blk_ext (heap_alloc_new w11 (.cells #[.slice Ab ss.length cb, .slice Bb vs.length db] 28)) hx
    have tp0_12 := tp0_11.ext hp_12
    have tp1_12 := tp1_11.ext hp_12
    have tx0_12 := tx0_11.ext hp_12
    have tx1_12 := tx1_11.ext hp_12
    have tm0_12 := tm0_11.ext hp_12
    have tm1_12 := tm1_11.ext hp_12
    have ts0_12 := ts0_11.ext hp_12
    have ts1_12 := ts1_11.ext hp_12
    have ty0_12 := ty0_11.ext hp_12
    have ty1_12 := ty1_11.ext hp_12
    have tv0_12 := tv0_11.ext hp_12
    have tv1_12 := tv1_11.ext hp_12
    have tr0_12 := tr0_11.ext hp_12
    have tr1_12 := tr1_11.ext hp_12
    have tz0_12 := tz0_11.ext hp_12
    have tz1_12 := tz1_11.ext hp_12
    have tt0_12 := tt0_11.ext hp_12
    have tt1_12 := tt1_11.ext hp_12
    have tb0_12 := tb0_11.ext hp_12
    have tb1_12 := tb1_11.ext hp_12
    clear q0s q1s q2s q3s qzs
    clear q0y q1y q2y q3y qzy
    obtain ⟨⟨q0y, q1y⟩, q2y, q3y⟩ := blk2 hXy_12
    have qzy := blk_lt hXy_12
    go_wp2_with fail
    (with_reducible refine (valid_th Ay By cy dy vs ss _ (ty0_12.ext (by with_reducible (repeat (first | exact Ext.refl _ | apply Ext.drewN | apply Ext.drew | apply Ext.alloc | (refine Ext.set ?_ (by first | (simp; done) | (simp; omega) | omega) _) | (refine Ext.trans ?_ (by assumption)))))) (ty1_12.ext (by with_reducible (repeat (first | exact Ext.refl _ | apply Ext.drewN | apply Ext.drew | apply Ext.alloc | (refine Ext.set ?_ (by first | (simp; done) | (simp; omega) | omega) _) | (refine Ext.trans ?_ (by assumption)))))) true HVY).mono ?_)
    rintro e w13 ⟨rfl, hx⟩
    have hp_13 : Ext w12 w13 := Ext.trans (by with_reducible (repeat (first | exact Ext.refl _ | apply Ext.drewN | apply Ext.drew | apply Ext.alloc | (refine Ext.set ?_ (by first | (simp; done) | (simp; omega) | omega) _) | (refine Ext.trans ?_ (by assumption))))) hx
    have hE_13 : Ext w w13 := hE_12.trans hp_13
    have hXp_13 := blk_ext hXp_12 hp_13
    have hXx_13 := blk_ext hXx_12 hp_13
    have hXm_13 := blk_ext hXm_12 hp_13
    have hXs_13 := blk_ext hXs_12 hp_13
    have hXy_13 := blk_ext hXy_12 hp_13
    have hXv_13 := blk_ext hXv_12 hp_13
    have hXr_13 := blk_ext hXr_12 hp_13
    have hXz_13 := blk_ext hXz_12 hp_13
    have hXt_13 := blk_ext hXt_12 hp_13
    have hXb_13 := blk_ext hXb_12 hp_13
    have tp0_13 := tp0_12.ext hp_13
    have tp1_13 := tp1_12.ext hp_13
    have tx0_13 := tx0_12.ext hp_13
    have tx1_13 := tx1_12.ext hp_13
    have tm0_13 := tm0_12.ext hp_13
    have tm1_13 := tm1_12.ext hp_13
    have ts0_13 := ts0_12.ext hp_13
    have ts1_13 := ts1_12.ext hp_13
    have ty0_13 := ty0_12.ext hp_13
    have ty1_13 := ty1_12.ext hp_13
    have tv0_13 := tv0_12.ext hp_13
    have tv1_13 := tv1_12.ext hp_13
    have tr0_13 := tr0_12.ext hp_13
    have tr1_13 := tr1_12.ext hp_13
    have tz0_13 := tz0_12.ext hp_13
    have tz1_13 := tz1_12.ext hp_13
    have tt0_13 := tt0_12.ext hp_13
    have tt1_13 := tt1_12.ext hp_13
    have tb0_13 := tb0_12.ext hp_13
    have tb1_13 := tb1_12.ext hp_13
    go_wp2
    go_meet
    exact hp_11.trans (hp_12.trans hp_13)
  case rest =>
    obtain ⟨w11, hwn⟩ : ∃ w11 : World, w11 = wc := ⟨_, rfl⟩
    subst hwn
    have hp_11 := hcut
    have hE_11 := hE_10.trans hp_11
    have hXp_11 := blk_ext hXp_10 hp_11
    have hXx_11 := blk_ext hXx_10 hp_11
    have hXm_11 := blk_ext hXm_10 hp_11
    have hXs_11 := blk_ext hXs_10 hp_11
    have hXy_11 := blk_ext hXy_10 hp_11
    have hXv_11 := blk_ext hXv_10 hp_11
    have hXr_11 := blk_ext hXr_10 hp_11
    have hXz_11 := blk_ext hXz_10 hp_11
    have hXt_11 := blk_ext hXt_10 hp_11
    have tp0_11 := tp0_10.ext hp_11
    have tp1_11 := tp1_10.ext hp_11
    have tx0_11 := tx0_10.ext hp_11
    have tx1_11 := tx1_10.ext hp_11
    have tm0_11 := tm0_10.ext hp_11
    have tm1_11 := tm1_10.ext hp_11
    have ts0_11 := ts0_10.ext hp_11
    have ts1_11 := ts1_10.ext hp_11
    have ty0_11 := ty0_10.ext hp_11
    have ty1_11 := ty1_10.ext hp_11
    have tv0_11 := tv0_10.ext hp_11
    have tv1_11 := tv1_10.ext hp_11
    have tr0_11 := tr0_10.ext hp_11
    have tr1_11 := tr1_10.ext hp_11
    have tz0_11 := tz0_10.ext hp_11
    have tz1_11 := tz1_10.ext hp_11
    have tt0_11 := tt0_10.ext hp_11
    have tt1_11 := tt1_10.ext hp_11
    have hcr := rtp_cases HRT.out
    go_upto_if 137 with fail
    go_cut [22, 23] from 136 to 157 (fun _ _ wx => Ext w11 wx)
    case first =>
      rcases hcr with hr | ⟨hr, hbd, hvz, hrt2⟩
      · have h0 : (r2 == 0) = false := by simpa using hr
        clear hr
        go_wp2
        go_meet
        exact Ext.refl _
      subst hr
      have HVZ := Lib.hid hvz
      have HRT2 := Lib.hid hrt2
      clear hvz hrt2
      obtain ⟨⟨q0z, q1z⟩, q2z, q3z⟩ := blk2 hXz_11
      have qzz := blk_lt hXz_11
      go_wp2_with fail
      (with_reducible refine (rot_th Az Bz cz dz y2 z2 (-bb) _ (tz0_11.ext (by with_reducible (repeat (first | exact Ext.refl _ | apply Ext.drewN | apply Ext.drew | apply Ext.alloc | (refine Ext.set ?_ (by first | (simp; done) | (simp; omega) | omega) _) | (refine Ext.trans ?_ (by assumption)))))) (tz1_11.ext (by with_reducible (repeat (first | exact Ext.refl _ | apply Ext.drewN | apply Ext.drew | apply Ext.alloc | (refine Ext.set ?_ (by first | (simp; done) | (simp; omega) | omega) _) | (refine Ext.trans ?_ (by assumption)))))) (by omega) HRT2.out).mono ?_)
      rintro e w12 ⟨Ab, cb, Bb, db, rfl, tb0_12, tb1_12, hx⟩
      have hp_12 : Ext w11 w12 := Ext.trans (by with_reducible (repeat (first | exact Ext.refl _ | apply Ext.drewN | apply Ext.drew | apply Ext.alloc | (refine Ext.set ?_ (by first | (simp; done) | (simp; omega) | omega) _) | (refine Ext.trans ?_ (by assumption))))) hx
      have hE_12 : Ext w w12 := hE_11.trans hp_12
      have hXp_12 := blk_ext hXp_11 hp_12
      have hXx_12 := blk_ext hXx_11 hp_12
      have hXm_12 := blk_ext hXm_11 hp_12
      have hXs_12 := blk_ext hXs_11 hp_12
      have hXy_12 := blk_ext hXy_11 hp_12
      have hXv_12 := blk_ext hXv_11 hp_12
      have hXr_12 := blk_ext hXr_11 hp_12
      have hXz_12 := blk_ext hXz_11 hp_12
      have hXt_12 := blk_ext hXt_11 hp_12
      have tp0_12 := tp0_11.ext hp_12
      have tp1_12 := tp1_11.ext hp_12
      have tx0_12 := tx0_11.ext hp_12
      have tx1_12 := tx1_11.ext hp_12
      have tm0_12 := tm0_11.ext hp_12
      have tm1_12 := tm1_11.ext hp_12
      have ts0_12 := ts0_11.ext hp_12
      have ts1_12 := ts1_11.ext hp_12
      have ty0_12 := ty0_11.ext hp_12
      have ty1_12 := ty1_11.ext hp_12
      have tv0_12 := tv0_11.ext hp_12
      have tv1_12 := tv1_11.ext hp_12
      have tr0_12 := tr0_11.ext hp_12
      have tr1_12 := tr1_11.ext hp_12
      have tz0_12 := tz0_11.ext hp_12
      have tz1_12 := tz1_11.ext hp_12
      have tt0_12 := tt0_11.ext hp_12
      have tt1_12 := tt1_11.ext hp_12
      clear q0z q1z q2z q3z qzz
      obtain ⟨⟨q0r, q1r⟩, q2r, q3r⟩ := blk2 hXr_12
      have qzr := blk_lt hXr_12
      obtain ⟨⟨q0z, q1z⟩, q2z, q3z⟩ := blk2 hXz_12
      have qzz := blk_lt hXz_12
      go_wp2_with fail
      (with_reducible refine (same_th Ab Bb Ar Br cb db cr dr rs qs _ (tb0_12.ext (by with_reducible (repeat (first | exact Ext.refl _ | apply Ext.drewN | apply Ext.drew | apply Ext.alloc | (refine Ext.set ?_ (by first | (simp; done) | (simp; omega) | omega) _) | (refine Ext.trans ?_ (by assumption)))))) (tb1_12.ext (by with_reducible (repeat (first | exact Ext.refl _ | apply Ext.drewN | apply Ext.drew | apply Ext.alloc | (refine Ext.set ?_ (by first | (simp; done) | (simp; omega) | omega) _) | (refine Ext.trans ?_ (by assumption)))))) (tr0_12.ext (by with_reducible (repeat (first | exact Ext.refl _ | apply Ext.drewN | apply Ext.drew | apply Ext.alloc | (refine Ext.set ?_ (by first | (simp; done) | (simp; omega) | omega) _) | (refine Ext.trans ?_ (by assumption)))))) (tr1_12.ext (by with_reducible (repeat (first | exact Ext.refl _ | apply Ext.drewN | apply Ext.drew | apply Ext.alloc | (refine Ext.set ?_ (by first | (simp; done) | (simp; omega) | omega) _) | (refine Ext.trans ?_ (by assumption))))))).mono ?_)
      rintro e w13 ⟨rfl, hx⟩
      have hp_13 : Ext w12 w13 := Ext.trans (by with_reducible (repeat (first | exact Ext.refl _ | apply Ext.drewN | apply Ext.drew | apply Ext.alloc | (refine Ext.set ?_ (by first | (simp; done) | (simp; omega) | omega) _) | (refine Ext.trans ?_ (by assumption))))) hx
      have hE_13 : Ext w w13 := hE_12.trans hp_13
      have hXp_13 := blk_ext hXp_12 hp_13
      have hXx_13 := blk_ext hXx_12 hp_13
      have hXm_13 := blk_ext hXm_12 hp_13
      have hXs_13 := blk_ext hXs_12 hp_13
      have hXy_13 := blk_ext hXy_12 hp_13
      have hXv_13 := blk_ext hXv_12 hp_13
      have hXr_13 := blk_ext hXr_12 hp_13
      have hXz_13 := blk_ext hXz_12 hp_13
      have hXt_13 := blk_ext hXt_12 hp_13
      have hXb_13 := blk_ext (heap_alloc_new w12 (.cells #[.slice Ab rs.length cb, .slice Bb qs.length db] 28)) hx
      have tp0_13 := tp0_12.ext hp_13
      have tp1_13 := tp1_12.ext hp_13
      have tx0_13 := tx0_12.ext hp_13
      have tx1_13 := tx1_12.ext hp_13
      have tm0_13 := tm0_12.ext hp_13
      have tm1_13 := tm1_12.ext hp_13
      have ts0_13 := ts0_12.ext hp_13
      have ts1_13 := ts1_12.ext hp_13
      have ty0_13 := ty0_12.ext hp_13
      have ty1_13 := ty1_12.ext hp_13
      have tv0_13 := tv0_12.ext hp_13
      have tv1_13 := tv1_12.ext hp_13
      have tr0_13 := tr0_12.ext hp_13
      have tr1_13 := tr1_12.ext hp_13
      have tz0_13 := tz0_12.ext hp_13
      have tz1_13 := tz1_12.ext hp_13
      have tt0_13 := tt0_12.ext hp_13
      have tt1_13 := tt1_12.ext hp_13
      have tb0_13 := tb0_12.ext hp_13
      have tb1_13 := tb1_12.ext hp_13
      clear q0r q1r q2r q3r qzr
      clear q0z q1z q2z q3z qzz
      obtain ⟨⟨q0z, q1z⟩, q2z, q3z⟩ := blk2 hXz_13
      have qzz := blk_lt hXz_13
      go_wp2_with fail
      (with_reducible refine (valid_th Az Bz cz dz y2 z2 _ (tz0_13.ext (by with_reducible (repeat (first | exact Ext.refl _ | apply Ext.drewN | apply Ext.drew | apply Ext.alloc | (refine Ext.set ?_ (by first | (simp; done) | (simp; omega) | omega) _) | (refine Ext.trans ?_ (by assumption)))))) (tz1_13.ext (by with_reducible (repeat (first | exact Ext.refl _ | apply Ext.drewN | apply Ext.drew | apply Ext.alloc | (refine Ext.set ?_ (by first | (simp; done) | (simp; omega) | omega) _) | (refine Ext.trans ?_ (by assumption)))))) true HVZ).mono ?_)
      rintro e w14 ⟨rfl, hx⟩
      have hp_14 : Ext w13 w14 := Ext.trans (by with_reducible (repeat (first | exact Ext.refl _ | apply Ext.drewN | apply Ext.drew | apply Ext.alloc | (refine Ext.set ?_ (by first | (simp; done) | (simp; omega) | omega) _) | (refine Ext.trans ?_ (by assumption))))) hx
      have hE_14 : Ext w w14 := hE_13.trans hp_14
      have hXp_14 := blk_ext hXp_13 hp_14
      have hXx_14 := blk_ext hXx_13 hp_14
      have hXm_14 := blk_ext hXm_13 hp_14
      have hXs_14 := blk_ext hXs_13 hp_14
      have hXy_14 := blk_ext hXy_13 hp_14
      have hXv_14 := blk_ext hXv_13 hp_14
      have hXr_14 := blk_ext hXr_13 hp_14
      have hXz_14 := blk_ext hXz_13 hp_14
      have hXt_14 := blk_ext hXt_13 hp_14
      have hXb_14 := blk_ext hXb_13 hp_14
      have tp0_14 := tp0_13.ext hp_14
      have tp1_14 := tp1_13.ext hp_14
      have tx0_14 := tx0_13.ext hp_14
      have tx1_14 := tx1_13.ext hp_14
      have tm0_14 := tm0_13.ext hp_14
      have tm1_14 := tm1_13.ext hp_14
      have ts0_14 := ts0_13.ext hp_14
      have ts1_14 := ts1_13.ext hp_14
      have ty0_14 := ty0_13.ext hp_14
      have ty1_14 := ty1_13.ext hp_14
      have tv0_14 := tv0_13.ext hp_14
      have tv1_14 := tv1_13.ext hp_14
      have tr0_14 := tr0_13.ext hp_14
      have tr1_14 := tr1_13.ext hp_14
      have tz0_14 := tz0_13.ext hp_14
      have tz1_14 := tz1_13.ext hp_14
      have tt0_14 := tt0_13.ext hp_14
      have tt1_14 := tt1_13.ext hp_14
      have tb0_14 := tb0_13.ext hp_14
      have tb1_14 := tb1_13.ext hp_14
      go_wp2
      go_meet
      exact hp_12.trans (hp_13.trans hp_14)
    case rest =>
      obtain ⟨w12, hwn⟩ : ∃ w12 : World, w12 = wc := ⟨_, rfl⟩
      subst hwn
      have hp_12 := hcut
      have hE_12 := hE_11.trans hp_12
      have hXp_12 := blk_ext hXp_11 hp_12
      have hXx_12 := blk_ext hXx_11 hp_12
      have hXm_12 := blk_ext hXm_11 hp_12
      have hXs_12 := blk_ext hXs_11 hp_12
      have hXy_12 := blk_ext hXy_11 hp_12
      have hXv_12 := blk_ext hXv_11 hp_12
      have hXr_12 := blk_ext hXr_11 hp_12
      have hXz_12 := blk_ext hXz_11 hp_12
      have hXt_12 := blk_ext hXt_11 hp_12
      have tp0_12 := tp0_11.ext hp_12
      have tp1_12 := tp1_11.ext hp_12
      have tx0_12 := tx0_11.ext hp_12
      have tx1_12 := tx1_11.ext hp_12
      have tm0_12 := tm0_11.ext hp_12
      have tm1_12 := tm1_11.ext hp_12
      have ts0_12 := ts0_11.ext hp_12
      have ts1_12 := ts1_11.ext hp_12
      have ty0_12 := ty0_11.ext hp_12
      have ty1_12 := ty1_11.ext hp_12
      have tv0_12 := tv0_11.ext hp_12
      have tv1_12 := tv1_11.ext hp_12
      have tr0_12 := tr0_11.ext hp_12
      have tr1_12 := tr1_11.ext hp_12
      have tz0_12 := tz0_11.ext hp_12
      have tz1_12 := tz1_11.ext hp_12
      have tt0_12 := tt0_11.ext hp_12
      have tt1_12 := tt1_11.ext hp_12
      rcases exj_cases HEX.out with hr | ⟨hr, hl1, hl2, hl3, hvp, hvx, hps, hex2⟩
      · have h0 : (r0 == 0) = false := by simpa using hr
        have h00 : (r0 != 0) = true := by simpa using hr
        clear hr
        go_wp2
        go_ret
        exact ⟨rfl, Ext.below hE_12⟩
      subst hr
      have HL1 := Lib.hid hl1
      have HL3 := Lib.hid hl3
      have HVP := Lib.hid hvp
      have HVX := Lib.hid hvx
      have HEX2 := Lib.hid hex2
      obtain ⟨pv, hpv⟩ : ∃ v, RowKit.wrap64 (psm ts us ts.length / ts.length) = v := ⟨_, rfl⟩
      have HP1 := Lib.hid hpv
      have HP2 : Hid (RowKit.wrap64 (psm ys zs ys.length / ys.length) = pv) := by show _ = _; rw [hl2, hps]; exact hpv
      clear hl1 hl2 hl3 hvp hvx hps hex2 hpv
      obtain ⟨⟨q0p, q1p⟩, q2p, q3p⟩ := blk2 hXp_12
      have qzp := blk_lt hXp_12
      obtain ⟨⟨q0x, q1x⟩, q2x, q3x⟩ := blk2 hXx_12
      have qzx := blk_lt hXx_12
      go_wp2_with fail
      (with_reducible refine (props_th Ap Bp cp dp ts us _ (tp0_12.ext (by with_reducible (repeat (first | exact Ext.refl _ | apply Ext.drewN | apply Ext.drew | apply Ext.alloc | (refine Ext.set ?_ (by first | (simp; done) | (simp; omega) | omega) _) | (refine Ext.trans ?_ (by assumption)))))) (tp1_12.ext (by with_reducible (repeat (first | exact Ext.refl _ | apply Ext.drewN | apply Ext.drew | apply Ext.alloc | (refine Ext.set ?_ (by first | (simp; done) | (simp; omega) | omega) _) | (refine Ext.trans ?_ (by assumption)))))) HL1 HVP pv HP1).mono ?_)
      rintro e w13 ⟨rfl, hx⟩
      have hp_13 : Ext w12 w13 := Ext.trans (by with_reducible (repeat (first | exact Ext.refl _ | apply Ext.drewN | apply Ext.drew | apply Ext.alloc | (refine Ext.set ?_ (by first | (simp; done) | (simp; omega) | omega) _) | (refine Ext.trans ?_ (by assumption))))) hx
      have hE_13 : Ext w w13 := hE_12.trans hp_13
      have hXp_13 := blk_ext hXp_12 hp_13
      have hXx_13 := blk_ext hXx_12 hp_13
      have hXm_13 := blk_ext hXm_12 hp_13
      have hXs_13 := blk_ext hXs_12 hp_13
      have hXy_13 := blk_ext hXy_12 hp_13
      have hXv_13 := blk_ext hXv_12 hp_13
      have hXr_13 := blk_ext hXr_12 hp_13
      have hXz_13 := blk_ext hXz_12 hp_13
      have hXt_13 := blk_ext hXt_12 hp_13
      have tp0_13 := tp0_12.ext hp_13
      have tp1_13 := tp1_12.ext hp_13
      have tx0_13 := tx0_12.ext hp_13
      have tx1_13 := tx1_12.ext hp_13
      have tm0_13 := tm0_12.ext hp_13
      have tm1_13 := tm1_12.ext hp_13
      have ts0_13 := ts0_12.ext hp_13
      have ts1_13 := ts1_12.ext hp_13
      have ty0_13 := ty0_12.ext hp_13
      have ty1_13 := ty1_12.ext hp_13
      have tv0_13 := tv0_12.ext hp_13
      have tv1_13 := tv1_12.ext hp_13
      have tr0_13 := tr0_12.ext hp_13
      have tr1_13 := tr1_12.ext hp_13
      have tz0_13 := tz0_12.ext hp_13
      have tz1_13 := tz1_12.ext hp_13
      have tt0_13 := tt0_12.ext hp_13
      have tt1_13 := tt1_12.ext hp_13
      clear q0p q1p q2p q3p qzp
      clear q0x q1x q2x q3x qzx
      obtain ⟨⟨q0p, q1p⟩, q2p, q3p⟩ := blk2 hXp_13
      have qzp := blk_lt hXp_13
      obtain ⟨⟨q0x, q1x⟩, q2x, q3x⟩ := blk2 hXx_13
      have qzx := blk_lt hXx_13
      go_wp2_with fail
      (with_reducible refine (props_th Ax Bx cx dx ys zs _ (tx0_13.ext (by with_reducible (repeat (first | exact Ext.refl _ | apply Ext.drewN | apply Ext.drew | apply Ext.alloc | (refine Ext.set ?_ (by first | (simp; done) | (simp; omega) | omega) _) | (refine Ext.trans ?_ (by assumption)))))) (tx1_13.ext (by with_reducible (repeat (first | exact Ext.refl _ | apply Ext.drewN | apply Ext.drew | apply Ext.alloc | (refine Ext.set ?_ (by first | (simp; done) | (simp; omega) | omega) _) | (refine Ext.trans ?_ (by assumption)))))) HL3 HVX pv HP2).mono ?_)
      rintro e w14 ⟨rfl, hx⟩
      have hp_14 : Ext w13 w14 := Ext.trans (by with_reducible (repeat (first | exact Ext.refl _ | apply Ext.drewN | apply Ext.drew | apply Ext.alloc | (refine Ext.set ?_ (by first | (simp; done) | (simp; omega) | omega) _) | (refine Ext.trans ?_ (by assumption))))) hx
      have hE_14 : Ext w w14 := hE_13.trans hp_14
      have hXp_14 := blk_ext hXp_13 hp_14
      have hXx_14 := blk_ext hXx_13 hp_14
      have hXm_14 := blk_ext hXm_13 hp_14
      have hXs_14 := blk_ext hXs_13 hp_14
      have hXy_14 := blk_ext hXy_13 hp_14
      have hXv_14 := blk_ext hXv_13 hp_14
      have hXr_14 := blk_ext hXr_13 hp_14
      have hXz_14 := blk_ext hXz_13 hp_14
      have hXt_14 := blk_ext hXt_13 hp_14
      have tp0_14 := tp0_13.ext hp_14
      have tp1_14 := tp1_13.ext hp_14
      have tx0_14 := tx0_13.ext hp_14
      have tx1_14 := tx1_13.ext hp_14
      have tm0_14 := tm0_13.ext hp_14
      have tm1_14 := tm1_13.ext hp_14
      have ts0_14 := ts0_13.ext hp_14
      have ts1_14 := ts1_13.ext hp_14
      have ty0_14 := ty0_13.ext hp_14
      have ty1_14 := ty1_13.ext hp_14
      have tv0_14 := tv0_13.ext hp_14
      have tv1_14 := tv1_13.ext hp_14
      have tr0_14 := tr0_13.ext hp_14
      have tr1_14 := tr1_13.ext hp_14
      have tz0_14 := tz0_13.ext hp_14
      have tz1_14 := tz1_13.ext hp_14
      have tt0_14 := tt0_13.ext hp_14
      have tt1_14 := tt1_13.ext hp_14
      clear q0p q1p q2p q3p qzp
      clear q0x q1x q2x q3x qzx
      obtain ⟨⟨q0p, q1p⟩, q2p, q3p⟩ := blk2 hXp_14
      have qzp := blk_lt hXp_14
      obtain ⟨⟨q0x, q1x⟩, q2x, q3x⟩ := blk2 hXx_14
      have qzx := blk_lt hXx_14
      go_wp2_with fail
      (with_reducible refine (exch_th Ax Bx cx dx ys zs kk (by omega) _ (tx0_14.ext (by with_reducible (repeat (first | exact Ext.refl _ | apply Ext.drewN | apply Ext.drew | apply Ext.alloc | (refine Ext.set ?_ (by first | (simp; done) | (simp; omega) | omega) _) | (refine Ext.trans ?_ (by assumption)))))) (tx1_14.ext (by with_reducible (repeat (first | exact Ext.refl _ | apply Ext.drewN | apply Ext.drew | apply Ext.alloc | (refine Ext.set ?_ (by first | (simp; done) | (simp; omega) | omega) _) | (refine Ext.trans ?_ (by assumption)))))) HEX2.out).mono ?_)
      rintro e w15 ⟨Ab, cb, Bb, db, rfl, tb0_15, tb1_15, hx⟩
      have hp_15 : Ext w14 w15 := Ext.trans (by with_reducible (repeat (first | exact Ext.refl _ | apply Ext.drewN | apply Ext.drew | apply Ext.alloc | (refine Ext.set ?_ (by first | (simp; done) | (simp; omega) | omega) _) | (refine Ext.trans ?_ (by assumption))))) hx
      have hE_15 : Ext w w15 := hE_14.trans hp_15
      have hXp_15 := blk_ext hXp_14 hp_15
      have hXx_15 := blk_ext hXx_14 hp_15
      have hXm_15 := blk_ext hXm_14 hp_15
      have hXs_15 := blk_ext hXs_14 hp_15
      have hXy_15 := blk_ext hXy_14 hp_15
      have hXv_15 := blk_ext hXv_14 hp_15
      have hXr_15 := blk_ext hXr_14 hp_15
      have hXz_15 := blk_ext hXz_14 hp_15
      have hXt_15 := blk_ext hXt_14 hp_15
      have tp0_15 := tp0_14.ext hp_15
      have tp1_15 := tp1_14.ext hp_15
      have tx0_15 := tx0_14.ext hp_15
      have tx1_15 := tx1_14.ext hp_15
      have tm0_15 := tm0_14.ext hp_15
      have tm1_15 := tm1_14.ext hp_15
      have ts0_15 := ts0_14.ext hp_15
      have ts1_15 := ts1_14.ext hp_15
      have ty0_15 := ty0_14.ext hp_15
      have ty1_15 := ty1_14.ext hp_15
      have tv0_15 := tv0_14.ext hp_15
      have tv1_15 := tv1_14.ext hp_15
      have tr0_15 := tr0_14.ext hp_15
      have tr1_15 := tr1_14.ext hp_15
      have tz0_15 := tz0_14.ext hp_15
      have tz1_15 := tz1_14.ext hp_15
      have tt0_15 := tt0_14.ext hp_15
      have tt1_15 := tt1_14.ext hp_15
      clear q0p q1p q2p q3p qzp
      clear q0x q1x q2x q3x qzx
      obtain ⟨⟨q0p, q1p⟩, q2p, q3p⟩ := blk2 hXp_15
      have qzp := blk_lt hXp_15
      obtain ⟨⟨q0x, q1x⟩, q2x, q3x⟩ := blk2 hXx_15
      have qzx := blk_lt hXx_15
      go_wp2_with fail
      (with_reducible refine (same_th Ab Bb Ap Bp cb db cp dp ts us _ (tb0_15.ext (by with_reducible (repeat (first | exact Ext.refl _ | apply Ext.drewN | apply Ext.drew | apply Ext.alloc | (refine Ext.set ?_ (by first | (simp; done) | (simp; omega) | omega) _) | (refine Ext.trans ?_ (by assumption)))))) (tb1_15.ext (by with_reducible (repeat (first | exact Ext.refl _ | apply Ext.drewN | apply Ext.drew | apply Ext.alloc | (refine Ext.set ?_ (by first | (simp; done) | (simp; omega) | omega) _) | (refine Ext.trans ?_ (by assumption)))))) (tp0_15.ext (by with_reducible (repeat (first | exact Ext.refl _ | apply Ext.drewN | apply Ext.drew | apply Ext.alloc | (refine Ext.set ?_ (by first | (simp; done) | (simp; omega) | omega) _) | (refine Ext.trans ?_ (by assumption)))))) (tp1_15.ext (by with_reducible (repeat (first | exact Ext.refl _ | apply Ext.drewN | apply Ext.drew | apply Ext.alloc | (refine Ext.set ?_ (by first | (simp; done) | (simp; omega) | omega) _) | (refine Ext.trans ?_ (by assumption))))))).mono ?_)
      rintro e w16 ⟨rfl, hx⟩
      have hp_16 : Ext w15 w16 := Ext.trans (by with_reducible (repeat (first | exact Ext.refl _ | apply Ext.drewN | apply Ext.drew | apply Ext.alloc | (refine Ext.set ?_ (by first | (simp; done) | (simp; omega) | omega) _) | (refine Ext.trans ?_ (by assumption))))) hx
      have hE_16 : Ext w w16 := hE_15.trans hp_16
      have hXp_16 := blk_ext hXp_15 hp_16
      have hXx_16 := blk_ext hXx_15 hp_16
      have hXm_16 := blk_ext hXm_15 hp_16
      have hXs_16 := blk_ext hXs_15 hp_16
      have hXy_16 := blk_ext hXy_15 hp_16
      have hXv_16 := blk_ext hXv_15 hp_16
      have hXr_16 := blk_ext hXr_15 hp_16
      have hXz_16 := blk_ext hXz_15 hp_16
      have hXt_16 := blk_ext hXt_15 hp_16
      have hXb_16 := blk_ext (heap_alloc_new w15 (.cells #[.slice Ab ts.length cb, .slice Bb us.length db] 28)) hx
      have tp0_16 := tp0_15.ext hp_16
      have tp1_16 := tp1_15.ext hp_16
      have tx0_16 := tx0_15.ext hp_16
      have tx1_16 := tx1_15.ext hp_16
      have tm0_16 := tm0_15.ext hp_16
      have tm1_16 := tm1_15.ext hp_16
      have ts0_16 := ts0_15.ext hp_16
      have ts1_16 := ts1_15.ext hp_16
      have ty0_16 := ty0_15.ext hp_16
      have ty1_16 := ty1_15.ext hp_16
      have tv0_16 := tv0_15.ext hp_16
      have tv1_16 := tv1_15.ext hp_16
      have tr0_16 := tr0_15.ext hp_16
      have tr1_16 := tr1_15.ext hp_16
      have tz0_16 := tz0_15.ext hp_16
      have tz1_16 := tz1_15.ext hp_16
      have tt0_16 := tt0_15.ext hp_16
      have tt1_16 := tt1_15.ext hp_16
      have tb0_16 := tb0_15.ext hp_16
      have tb1_16 := tb1_15.ext hp_16
      clear q0p q1p q2p q3p qzp
      clear q0x q1x q2x q3x qzx
      obtain ⟨⟨q0p, q1p⟩, q2p, q3p⟩ := blk2 hXp_16
      have qzp := blk_lt hXp_16
      obtain ⟨⟨q0x, q1x⟩, q2x, q3x⟩ := blk2 hXx_16
      have qzx := blk_lt hXx_16
      go_wp2_with fail
      (with_reducible refine (valid_th Ax Bx cx dx ys zs _ (tx0_16.ext (by with_reducible (repeat (first | exact Ext.refl _ | apply Ext.drewN | apply Ext.drew | apply Ext.alloc | (refine Ext.set ?_ (by first | (simp; done) | (simp; omega) | omega) _) | (refine Ext.trans ?_ (by assumption)))))) (tx1_16.ext (by with_reducible (repeat (first | exact Ext.refl _ | apply Ext.drewN | apply Ext.drew | apply Ext.alloc | (refine Ext.set ?_ (by first | (simp; done) | (simp; omega) | omega) _) | (refine Ext.trans ?_ (by assumption)))))) true HVX).mono ?_)
      rintro e w17 ⟨rfl, hx⟩
      have hp_17 : Ext w16 w17 := Ext.trans (by with_reducible (repeat (first | exact Ext.refl _ | apply Ext.drewN | apply Ext.drew | apply Ext.alloc | (refine Ext.set ?_ (by first | (simp; done) | (simp; omega) | omega) _) | (refine Ext.trans ?_ (by assumption))))) hx
      have hE_17 : Ext w w17 := hE_16.trans hp_17
      have hXp_17 := blk_ext hXp_16 hp_17
      have hXx_17 := blk_ext hXx_16 hp_17
      have hXm_17 := blk_ext hXm_16 hp_17
      have hXs_17 := blk_ext hXs_16 hp_17
      have hXy_17 := blk_ext hXy_16 hp_17
      have hXv_17 := blk_ext hXv_16 hp_17
      have hXr_17 := blk_ext hXr_16 hp_17
      have hXz_17 := blk_ext hXz_16 hp_17
      have hXt_17 := blk_ext hXt_16 hp_17
      have hXb_17 := blk_ext hXb_16 hp_17
      have tp0_17 := tp0_16.ext hp_17
      have tp1_17 := tp1_16.ext hp_17
      have tx0_17 := tx0_16.ext hp_17
      have tx1_17 := tx1_16.ext hp_17
      have tm0_17 := tm0_16.ext hp_17
      have tm1_17 := tm1_16.ext hp_17
      have ts0_17 := ts0_16.ext hp_17
      have ts1_17 := ts1_16.ext hp_17
      have ty0_17 := ty0_16.ext hp_17
      have ty1_17 := ty1_16.ext hp_17
      have tv0_17 := tv0_16.ext hp_17
      have tv1_17 := tv1_16.ext hp_17
      have tr0_17 := tr0_16.ext hp_17
      have tr1_17 := tr1_16.ext hp_17
      have tz0_17 := tz0_16.ext hp_17
      have tz1_17 := tz1_16.ext hp_17
      have tt0_17 := tt0_16.ext hp_17
      have tt1_17 := tt1_16.ext hp_17
      have tb0_17 := tb0_16.ext hp_17
      have tb1_17 := tb1_16.ext hp_17
      clear q0p q1p q2p q3p qzp
      clear q0x q1x q2x q3x qzx
      go_wp2
      go_ret
      exact ⟨by simp, Ext.below hE_17⟩
end Go.Proofs.Ytlalaomimfdepaa.fnPassings
