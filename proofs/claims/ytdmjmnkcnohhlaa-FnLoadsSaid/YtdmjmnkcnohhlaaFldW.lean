/- The walk of laws.FnLoads: all hands together make all throws, renamed hands carry the same loads, rests add up to the common period. No condition. -/
import Derived.Test.YtdmjmnkcnohhlaaRnm2
import Derived.Deep.QuietTactic
import Derived.BigQuiet
import Derived.Deep.CutRange
namespace Go.Proofs.Ytdmjmnkcnohhlaa.fnLoads
set_option linter.unusedVariables false
set_option linter.unusedSimpArgs false
open Go.RowKit Go.Joins

/-- A fact that unification does not open. -/
structure Boxed (p : Prop) : Prop where
  out : p
/-- Loads and rests of one hand. -/
theorem hand_fact {ys : List Int} {N M h : Nat} (hM : 1 ≤ M) {l r : Int} (hl : ldc ys N h = l) (hr : rst (bts ys h N) M = r) :
    (l = 0 ∧ r = 0) ∨ (l = 1 ∧ r = M) ∨ (2 ≤ l ∧ 0 < r ∧ (M : Int) ≤ l * r) := by
  have e := bts_ldc ys h N
  rw [hl] at e
  rcases (by omega : (bts ys h N).length = 0 ∨ (bts ys h N).length = 1 ∨ 2 ≤ (bts ys h N).length) with h0 | h0 | h0
  · left; exact ⟨by omega, by rw [← hr]; exact rest_zero h0⟩
  · right; left; exact ⟨by omega, by rw [← hr]; exact rest_one (by omega) h0⟩
  · right; right
    have hb := rest_big (bs := bts ys h N) (L := M) (by omega)
    rw [hr, e] at hb
    refine ⟨by omega, ?_, hb⟩
    rcases Int.lt_or_le 0 r with h1 | h1
    · exact h1
    · have := Int.mul_nonpos_of_nonneg_of_nonpos (show 0 ≤ l by omega) h1
      omega
set_option maxHeartbeats 16000000 in
set_option maxRecDepth 100000 in
theorem walk (A : Option Addr) (n c : Nat) (xs : List Int) (w : World) (hB : Byts w A n xs) :
    Calls Try.prog 3 #[.slice A n c] w fun e w' => e = .returned (.bool true) ∧ Below w.heap.size w w' := by
  have hsn := hB.small
  cases hl : decide (4096 < n)
  rotate_left
  · have HL := Lib.hid hl
    clear hl
    go_enter Try.func3, Try.ntmps3
    go_wp2_with fail
    (with_reducible refine (f6big_any _ _ _ _ hsn).mono ?_)
    rw [HL.out]
    rintro e w' ⟨rfl, rfl⟩
    go_wp2
    go_ret
    exact ⟨rfl, Ext.below (Ext.refl _)⟩
  have HL := Lib.hid hl
  clear hl
  go_enter Try.func3, Try.ntmps3
  go_wp2_with fail
  (with_reducible refine (f6big_any _ _ _ _ hsn).mono ?_)
  rw [HL.out]
  rintro e w' ⟨rfl, rfl⟩
  go_wp2_with fail
  (with_reducible refine (DrawLoadsOf_any A n c xs _ hB).mono ?_)
  rintro e w1 ⟨Ap, Ao, np, cp, no, co, ps, os, rfl, hP_1, hO_1, hnp, hno, hE_1⟩
  go_wp2_with fail
  (with_reducible refine (implLoadsOf_ret _ _ _ ps _ _ _ os _ hP_1 hO_1).mono ?_)
  rintro e w2 ⟨Aa, ca, rfl, Ra_2, hx_2⟩
  have hp_2 : Ext w1 w2 := hx_2
  have hE_2 := hE_1.trans hp_2
  have hP_2 := hP_1.ext hp_2
  have hO_2 := hO_1.ext hp_2
  go_wp2_with fail
  (with_reducible refine (specLoadsOf_ret _ _ _ ps _ _ _ os _ hP_2 hO_2).mono ?_)
  rintro e w3 ⟨Ab, cb, rfl, Rb_3, hx_3⟩
  have hp_3 : Ext w2 w3 := hx_3
  have hE_3 := hE_2.trans hp_3
  have Ra_3 := Ra_2.ext hp_3
  have hP_3 := hP_2.ext hp_3
  have hO_3 := hO_2.ext hp_3
  go_wp2_with fail
  (with_reducible refine (implRestsOf_ret _ _ _ ps _ _ _ os _ hP_3 hO_3).mono ?_)
  rintro e w4 ⟨Ac, cc, rfl, Rc_4, hx_4⟩
  have hp_4 : Ext w3 w4 := hx_4
  have hE_4 := hE_3.trans hp_4
  have Ra_4 := Ra_3.ext hp_4
  have Rb_4 := Rb_3.ext hp_4
  have hP_4 := hP_3.ext hp_4
  have hO_4 := hO_3.ext hp_4
  go_wp2_with fail
  (with_reducible refine (specRestsOf_ret _ _ _ ps _ _ _ os _ hP_4 hO_4).mono ?_)
  rintro e w5 ⟨Ad, cd, rfl, Rd_5, hx_5⟩
  have hp_5 : Ext w4 w5 := hx_5
  have hE_5 := hE_4.trans hp_5
  have Ra_5 := Ra_4.ext hp_5
  have Rb_5 := Rb_4.ext hp_5
  have Rc_5 := Rc_4.ext hp_5
  have hP_5 := hP_4.ext hp_5
  have hO_5 := hO_4.ext hp_5
  go_wp2_with fail
  (with_reducible refine (DrawRenameHands_any A n c xs _ (hB.ext hE_5)).mono ?_)
  rintro e w6 ⟨Aq, An, nq, cq, nn, cn, qs, ns, rfl, hQ_6, hN_6, hnq, hnn, hx_6⟩
  have hp_6 : Ext w5 w6 := hx_6
  have hE_6 := hE_5.trans hp_6
  have Ra_6 := Ra_5.ext hp_6
  have Rb_6 := Rb_5.ext hp_6
  have Rc_6 := Rc_5.ext hp_6
  have Rd_6 := Rd_5.ext hp_6
  have hP_6 := hP_5.ext hp_6
  have hO_6 := hO_5.ext hp_6
  go_wp2_with fail
  (with_reducible refine (implRename_ret _ _ _ qs _ _ _ ns _ hQ_6 hN_6).mono ?_)
  rintro e w7 ⟨Ae, ce, rfl, Re_7, hx_7⟩
  have hp_7 : Ext w6 w7 := hx_7
  have hE_7 := hE_6.trans hp_7
  have Ra_7 := Ra_6.ext hp_7
  have Rb_7 := Rb_6.ext hp_7
  have Rc_7 := Rc_6.ext hp_7
  have Rd_7 := Rd_6.ext hp_7
  have hP_7 := hP_6.ext hp_7
  have hO_7 := hO_6.ext hp_7
  have hQ_7 := hQ_6.ext hp_7
  have hN_7 := hN_6.ext hp_7
  go_wp2_with fail
  (with_reducible refine (specRename_ret _ _ _ qs _ _ _ ns _ hQ_7 hN_7).mono ?_)
  rintro e w8 ⟨Af, cf, rfl, Rf_8, hx_8⟩
  have hp_8 : Ext w7 w8 := hx_8
  have hE_8 := hE_7.trans hp_8
  have Ra_8 := Ra_7.ext hp_8
  have Rb_8 := Rb_7.ext hp_8
  have Rc_8 := Rc_7.ext hp_8
  have Rd_8 := Rd_7.ext hp_8
  have Re_8 := Re_7.ext hp_8
  have hP_8 := hP_7.ext hp_8
  have hO_8 := hO_7.ext hp_8
  have hQ_8 := hQ_7.ext hp_8
  have hN_8 := hN_7.ext hp_8
  obtain ⟨bd1, bd2⟩ := ldv_bd ps os
  obtain ⟨_, bd3⟩ := rsv_bd ps os
  obtain ⟨bd4, bd5⟩ := rnv_bd qs ns
  go_upto_region 11 with fail
  go_cut [108] from 30 to 107 (fun c wx => c = .bool false ∧ Ext w8 wx)
  case first =>
    go_wp2_with fail
    (with_reducible refine (f6ints_same _ _ (ldn ps os) _ _ (ldv ps os) _ (by have := Ra_8.ints (by omega) bd2; rwa [Nat.mul_one] at this) (by have := Rb_8.ints (by omega) bd2; rwa [Nat.mul_one] at this)).mono ?_)
    rintro e w9 ⟨rfl, hq_9⟩
    have hp_9 : Ext w8 w9 := Ext.qt (Ext.refl _) hq_9
    have hE_9 := hE_8.trans hp_9
    have Ra_9 := Ra_8.ext hp_9
    have Rb_9 := Rb_8.ext hp_9
    have Rc_9 := Rc_8.ext hp_9
    have Rd_9 := Rd_8.ext hp_9
    have Re_9 := Re_8.ext hp_9
    have Rf_9 := Rf_8.ext hp_9
    have hP_9 := hP_8.ext hp_9
    have hO_9 := hO_8.ext hp_9
    have hQ_9 := hQ_8.ext hp_9
    have hN_9 := hN_8.ext hp_9
    go_wp2_with fail
    (with_reducible refine (f6ints_same _ _ (ldn ps os) _ _ (rsv ps os) _ (by have := Rc_9.ints (by omega) bd3; rwa [Nat.mul_one] at this) (by have := Rd_9.ints (by omega) bd3; rwa [Nat.mul_one] at this)).mono ?_)
    rintro e w10 ⟨rfl, hq_10⟩
    have hp_10 : Ext w9 w10 := Ext.qt (Ext.refl _) hq_10
    have hE_10 := hE_9.trans hp_10
    have Ra_10 := Ra_9.ext hp_10
    have Rb_10 := Rb_9.ext hp_10
    have Rc_10 := Rc_9.ext hp_10
    have Rd_10 := Rd_9.ext hp_10
    have Re_10 := Re_9.ext hp_10
    have Rf_10 := Rf_9.ext hp_10
    have hP_10 := hP_9.ext hp_10
    have hO_10 := hO_9.ext hp_10
    have hQ_10 := hQ_9.ext hp_10
    have hN_10 := hN_9.ext hp_10
    go_wp2_with fail
    (with_reducible refine (f6ints_same _ _ (rnn qs ns) _ _ (rnv qs ns) _ (by have := Re_10.ints (by omega) bd5; rwa [Nat.mul_one] at this) (by have := Rf_10.ints (by omega) bd5; rwa [Nat.mul_one] at this)).mono ?_)
    rintro e w11 ⟨rfl, hq_11⟩
    have hp_11 : Ext w10 w11 := Ext.qt (Ext.refl _) hq_11
    have hE_11 := hE_10.trans hp_11
    have Ra_11 := Ra_10.ext hp_11
    have Rb_11 := Rb_10.ext hp_11
    have Rc_11 := Rc_10.ext hp_11
    have Rd_11 := Rd_10.ext hp_11
    have Re_11 := Re_10.ext hp_11
    have Rf_11 := Rf_10.ext hp_11
    have hP_11 := hP_10.ext hp_11
    have hO_11 := hO_10.ext hp_11
    have hQ_11 := hQ_10.ext hp_11
    have hN_11 := hN_10.ext hp_11
    go_wp2
    go_meet
    exact ⟨by simp, hp_9.trans (hp_10.trans hp_11)⟩
  case rest =>
    obtain ⟨rfl, hcA⟩ := hcut
    obtain ⟨w9, hwA⟩ : ∃ w9 : World, w9 = wc := ⟨_, rfl⟩
    subst hwA
    have hE_9 := hE_8.trans hcA
    have Ra_9 := Ra_8.ext hcA
    have Rc_9 := Rc_8.ext hcA
    have Re_9 := Re_8.ext hcA
    have hP_9 := hP_8.ext hcA
    have hO_9 := hO_8.ext hcA
    have hQ_9 := hQ_8.ext hcA
    have hN_9 := hN_8.ext hcA
    go_upto_if 110 with fail
    go_cut [15, 16, 17, 18, 19, 20, 21, 22, 23] from 109 to 160 (fun _ _ _ _ _ _ _ _ _ wx => Ext w9 wx)
    case first =>
      by_cases hrn : rnc qs ns = 0
      rotate_left
      · have hn0 : (rnc qs ns == 0) = false := by simpa using hrn
        have hn00 : (rnc qs ns != 0) = true := by simpa using hrn
        generalize rnc qs ns = rq at *
        go_wp2
        go_meet
        exact Ext.refl _
      obtain ⟨hqv, hqp⟩ := rnc_zero hrn
      obtain ⟨_, hqe1, hqe2⟩ := rnv_yes hqv hqp
      obtain ⟨hxv, hxc⟩ := rnm_vhd hqv hqp
      have hqc := hct_bd hqv
      have hqn := (vhd_iff hqv).1
      rw [hqe1, hqe2] at Re_9
      rw [hqe1] at bd5
      rw [hrn]
      have hql := hQ_9.len
      have hX_9 : Ints w9 Ae nq (rnm qs ns) := by have h9 := Re_9.ints (by omega) bd5; rw [Nat.mul_one, hql] at h9; exact h9
      rw [hqe2, hql]
      have h3 : ∀ W : World, Ints (W.alloc (.cells #[.int .i64 3] 2)) (some ⟨W.heap.size, 0, none⟩) 1 [3] := fun W => ⟨rfl, by omega, by intro x hx; simp at hx; omega, fun _ => ⟨W.heap.size, 0, rfl, by simp, fun i hi => by
        obtain rfl : i = 0 := by omega
        exact (cell_of_block (heap_alloc_new W _) 0).trans rfl⟩⟩
      go_wp2_with fail
      (with_reducible refine (implLoadsOf_ret _ _ _ [3] _ _ _ qs _ (h3 _) (hQ_9.ext (by with_reducible (repeat (first | exact Ext.refl _ | apply Ext.drewN | apply Ext.drew | apply Ext.alloc | (refine Ext.set ?_ (by first | (simp; done) | (simp; omega) | omega) _) | (refine Ext.trans ?_ (by assumption))))))).mono ?_)
      rintro e w10 ⟨Ag, cg, rfl, Rg_10, hx_10⟩
      have hp_10 : Ext w9 w10 := Ext.trans (by with_reducible (repeat (first | exact Ext.refl _ | apply Ext.drewN | apply Ext.drew | apply Ext.alloc | (refine Ext.set ?_ (by first | (simp; done) | (simp; omega) | omega) _) | (refine Ext.trans ?_ (by assumption))))) hx_10
      have hE_10 := hE_9.trans hp_10
      have Ra_10 := Ra_9.ext hp_10
      have Rc_10 := Rc_9.ext hp_10
      have hP_10 := hP_9.ext hp_10
      have hO_10 := hO_9.ext hp_10
      have hQ_10 := hQ_9.ext hp_10
      have hN_10 := hN_9.ext hp_10
      have hX_10 := hX_9.ext hp_10
      go_wp2_with fail
      (with_reducible refine (implLoadsOf_ret _ _ _ [3] _ _ _ (rnm qs ns) _ (h3 _) (hX_10.ext (by with_reducible (repeat (first | exact Ext.refl _ | apply Ext.drewN | apply Ext.drew | apply Ext.alloc | (refine Ext.set ?_ (by first | (simp; done) | (simp; omega) | omega) _) | (refine Ext.trans ?_ (by assumption))))))).mono ?_)
      rintro e w11 ⟨Ah, ch, rfl, Rh_11, hx_11⟩
      have hp_11 : Ext w10 w11 := Ext.trans (by with_reducible (repeat (first | exact Ext.refl _ | apply Ext.drewN | apply Ext.drew | apply Ext.alloc | (refine Ext.set ?_ (by first | (simp; done) | (simp; omega) | omega) _) | (refine Ext.trans ?_ (by assumption))))) hx_11
      have hE_11 := hE_10.trans hp_11
      have Ra_11 := Ra_10.ext hp_11
      have Rc_11 := Rc_10.ext hp_11
      have Rg_11 := Rg_10.ext hp_11
      have hP_11 := hP_10.ext hp_11
      have hO_11 := hO_10.ext hp_11
      have hQ_11 := hQ_10.ext hp_11
      have hN_11 := hN_10.ext hp_11
      have hX_11 := hX_10.ext hp_11
      obtain ⟨E, hE0⟩ : ∃ E : Nat, (hct qs).toNat = E := ⟨_, rfl⟩
      have hg1 : ldn [3] qs = E := by rw [(ldv3 hqv).2, hE0]
      have hg2 : ldn [3] (rnm qs ns) = E := by rw [(ldv3 hxv).2, hxc, hE0]
      have hEb : 1 ≤ E ∧ E ≤ 4 := by omega
      have hnE : nn = E := by have := (prm_iff.1 hqp).1; rw [hN_11.len, hE0] at this; exact this
      subst hnE
      have HREN : Hid (∀ h, h < nn → (0 ≤ ns[h]?.getD 0 ∧ ns[h]?.getD 0 < nn) ∧ (ldv [3] (rnm qs ns))[(ns[h]?.getD 0).toNat]?.getD 0 = (ldv [3] qs)[h]?.getD 0) := fun h hh => ⟨by have := (prm_iff.1 hqp).2.1 h (by omega); rw [hE0] at this; exact this, renamed hqv hqp (by omega)⟩
      have hcode1 := hcd3 hqv
      have hcode2 := hcd3 hxv
      have hbd7 := (ldv_bd [3] qs).2
      have hbd8 := (ldv_bd [3] (rnm qs ns)).2
      have HIG : Hid (Ints w11 Ag nn (ldv [3] qs)) := by have h7 := Rg_11.ints (by rw [hg1]; omega) hbd7; rw [Nat.mul_one, hg1] at h7; exact h7
      have HIH : Hid (Ints w11 Ah nn (ldv [3] (rnm qs ns))) := by have h7 := Rh_11.ints (by rw [hg2]; omega) hbd8; rw [Nat.mul_one, hg2] at h7; exact h7
      rw [hg1, hg2, hcode1, hcode2]
      have HN := Lib.hid hN_11
      generalize ldv [3] (rnm qs ns) = us at *
      generalize ldv [3] qs = vs at *
      clear Rg_10 Rg_11 Rh_11 hX_9 hX_10 hX_11 hg1 hg2 hcode1 hcode2 hbd7 hbd8 hqv hqp hqe1 hqe2 hxv hxc hqc hqn hql h3 hE0
      go_wp2
      go_loopw [23] (fun i wr => Boxed (∃ k : Nat, k ≤ nn ∧ i = .int .i64 k ∧ Ext w11 wr)) (fun i _ => nn - (intOf i).toNat)
      case atStart => exact ⟨⟨0, by omega, rfl, Ext.refl _⟩⟩
      case round =>
        obtain ⟨⟨k, hk, rfl, hx⟩⟩ := hrel
        by_cases hlt : k < nn
        · obtain ⟨b1, o1, hA1, hz1, hc1⟩ := (HIG.out.ext hx).at_ (by omega)
          obtain ⟨b2, o2, hA2, hz2, hc2⟩ := (HIH.out.ext hx).at_ (by omega)
          obtain ⟨b3, o3, hA3, hz3, hc3⟩ := (HN.out.ext hx).at_ (by omega)
          subst hA1 hA2 hA3
          obtain ⟨hr1, hr2⟩ := HREN.out k hlt
          obtain ⟨q, hq⟩ : ∃ q : Nat, ns[k]?.getD 0 = q := ⟨(ns[k]?.getD 0).toNat, by omega⟩
          have a0 := hc1 k hlt
          have d0 := hc3 k hlt
          rw [hq] at d0 hr1 hr2
          rw [Int.toNat_natCast] at hr2
          have hqn : q < nn := by omega
          have hqi : (q : Int) < nn := by omega
          have e0 := hc2 q hqn
          rw [hr2] at e0
          have hki : (k : Int) < nn := by omega
          generalize vs[k]?.getD 0 = z at a0 e0
          clear hc1 hc2 hc3 hq hr1 hr2
          go_wp2
          go_quiet (fail)
          go_wp2
          go_roundw
          case rel => first | exact ⟨⟨k + 1, by omega, by go_num, hx.trans (by with_reducible (repeat (first | exact Ext.refl _ | apply Ext.drewN | apply Ext.drew | apply Ext.alloc | (refine Ext.set ?_ (by first | (simp; done) | (simp; omega) | omega) _) | (refine Ext.trans ?_ (by assumption)))))⟩⟩ | ((repeat apply Exists.intro); refine ⟨?_, rfl⟩; exact ⟨⟨k + 1, by omega, by go_num, hx.trans (by with_reducible (repeat (first | exact Ext.refl _ | apply Ext.drewN | apply Ext.drew | apply Ext.alloc | (refine Ext.set ?_ (by first | (simp; done) | (simp; omega) | omega) _) | (refine Ext.trans ?_ (by assumption)))))⟩⟩)
          case measure => simp [intOf]; omega
        · obtain rfl : k = nn := by omega
          go_wp2
          go_meet
          exact hp_10.trans (hp_11.trans hx)
    case rest =>
      obtain ⟨w12, hwB⟩ : ∃ w12 : World, w12 = wc := ⟨_, rfl⟩
      subst hwB
      have hE_12 := hE_9.trans hcut
      have Ra_12 := Ra_9.ext hcut
      have Rc_12 := Rc_9.ext hcut
      have hP_12 := hP_9.ext hcut
      have hO_12 := hO_9.ext hcut
      by_cases hr : hcd ps os = 0
      rotate_left
      · have h0 : (hcd ps os != 0) = true := by simpa using hr
        have h00 : (hcd ps os == 0) = false := by simpa using hr
        generalize hcd ps os = r at *
        go_wp2
        go_ret
        exact ⟨rfl, Ext.below hE_12⟩
      rw [hr]
      go_wp2_with fail
      (with_reducible refine (implHandThrows_ret _ _ _ ps _ _ _ os _ hP_12 hO_12).mono ?_)
      rintro e w13 ⟨Ai, ci, rfl, Ri_13, hx_13⟩
      have hp_13 : Ext w12 w13 := hx_13
      have hE_13 := hE_12.trans hp_13
      have Ra_13 := Ra_12.ext hp_13
      have Rc_13 := Rc_12.ext hp_13
      have hP_13 := hP_12.ext hp_13
      have hO_13 := hO_12.ext hp_13
      go_wp2_with fail
      (with_reducible refine (implCommonPeriod_ret _ _ _ _ _ _ ps os _ hP_13 hO_13).mono ?_)
      rintro e w14 ⟨rfl, hx_14⟩
      have hp_14 : Ext w13 w14 := hx_14
      have hE_14 := hE_13.trans hp_14
      have Ra_14 := Ra_13.ext hp_14
      have Rc_14 := Rc_13.ext hp_14
      have Ri_14 := Ri_13.ext hp_14
      have hP_14 := hP_13.ext hp_14
      have hO_14 := hO_13.ext hp_14
      obtain ⟨hv, ho⟩ := hcd_zero hr
      have HO := Lib.hid ho
      have hn12 := (thr_iff.1 (vpat_thr hv)).2
      have hm12 := (vhd_iff ho).1
      have hcb := hct_bd ho
      rw [hP_1.len] at hn12
      rw [hO_1.len] at hm12
      obtain ⟨M, hM⟩ : ∃ M : Nat, cmp_ np no = M := ⟨_, rfl⟩
      have hMb : 1 ≤ M ∧ M ≤ 144 := by rw [← hM]; exact cmp_bd hn12 hm12
      have hcp : cpv ps os = M := by unfold cpv; rw [if_pos hr, hP_1.len, hO_1.len, hM]
      obtain ⟨N, hN⟩ : ∃ N : Nat, tcn ps M = N := ⟨_, rfl⟩
      obtain ⟨H, hH⟩ : ∃ H : Nat, (hct os).toNat = H := ⟨_, rfl⟩
      obtain ⟨ys, hys⟩ : ∃ ys, htr ps os M = ys := ⟨_, rfl⟩
      have hhn : hthn ps os = N := by unfold hthn; rw [if_pos hr, hP_1.len, hO_1.len, hM, hN]
      have hln : ldn ps os = H := by unfold ldn; rw [if_pos hr, hH]
      have hlv : ldv ps os = ldl ys N H := by unfold ldv; rw [if_pos hr, hP_1.len, hO_1.len, hM, hN, hH, hys]
      have hrv : rsv ps os = rsl ys N M H := by unfold rsv; rw [if_pos hr, hP_1.len, hO_1.len, hM, hN, hH, hys]
      have HALL : Hid (sml ys N H = N) := sml_all N (fun i hi => by
        obtain ⟨b, _, _, _, _, _, q2, _⟩ := htr_row ps os M i (by rw [hN]; exact hi)
        rw [hys] at q2
        rw [q2]
        have := ord_lt ho (b : Int)
        omega)
      have hyb : ∀ y ∈ ys, 0 ≤ y ∧ y ≤ 159 := by
        rw [← hys]
        intro y hy
        have := htr_bd hv ho M y hy
        omega
      have HRB : Hid (∀ h : Nat, -159 ≤ rst (bts ys h N) M ∧ rst (bts ys h N) M ≤ 318) := fun h => rstf_bd (by omega) (by omega) (bts_bd (by omega) hyb h N) _
      have hNM : N ≤ M := by rw [← hN]; exact tcn_le ps M
      have hHb : 1 ≤ H ∧ H ≤ 4 := by omega
      rw [hln, hlv] at Ra_14
      rw [hln, hrv] at Rc_14
      rw [hlv] at bd2
      rw [hrv] at bd3
      have HIA := Lib.hid (by have := Ra_14.ints (by omega) bd2; rwa [Nat.mul_one] at this)
      have HIC := Lib.hid (by have := Rc_14.ints (by omega) bd3; rwa [Nat.mul_one] at this)
      have HIA : Hid (Ints w14 Aa H (ldl ys N H)) := HIA.out
      have HIC : Hid (Ints w14 Ac H (rsl ys N M H)) := HIC.out
      rw [hr, hcp, hhn, hln]
      clear hyb hhn hln hlv hrv hcp hN hys hM hH hr hv ho bd1 bd2 bd3 bd4 bd5 hn12 hm12 hcb
      go_wp2
      go_loopw [28, 29] (fun s i wr => Boxed (∃ k : Nat, k ≤ H ∧ i = .int .i64 k ∧ s = .int .i64 (sml ys N k) ∧ Ext w14 wr)) (fun _ i _ => H - (intOf i).toNat)
      case atStart => exact ⟨⟨0, by omega, rfl, rfl, Ext.refl _⟩⟩
      case round =>
        obtain ⟨⟨k, hk, rfl, rfl, hx⟩⟩ := hrel
        by_cases hlt : k < H
        · obtain ⟨b1, o1, hA1, hz1, hc1⟩ := (HIA.out.ext hx).at_ (by omega)
          obtain ⟨b2, o2, hA2, hz2, hc2⟩ := (HIC.out.ext hx).at_ (by omega)
          subst hA1 hA2
          have a0 := hc1 k hlt
          have d0 := hc2 k hlt
          rw [ldl_get hlt] at a0
          rw [show (rsl ys N M H)[k]?.getD 0 = rst (bts ys k N) M by simp [rsl, hlt]] at d0
          have hki : (k : Int) < H := by omega
          have hrb := HRB.out k
          have hlb := ldc_bd ys N k
          have hsb := sml_bd ys N k
          have hsb2 : (k : Int) * N ≤ 4 * 144 := Int.mul_le_mul (by omega) (by omega) (by omega) (by omega)
          obtain ⟨l, hl⟩ : ∃ l, ldc ys N k = l := ⟨_, rfl⟩
          obtain ⟨r, hr⟩ : ∃ r, rst (bts ys k N) M = r := ⟨_, rfl⟩
          obtain ⟨s, hs⟩ : ∃ s, sml ys N k = s := ⟨_, rfl⟩
          have HS : Hid (sml ys N (k + 1) = s + l) := by show _ = _; simp only [sml]; rw [hs, hl]
          have hfact := hand_fact hMb.1 hl hr
          rw [hl] at a0 hlb
          rw [hr] at d0 hrb
          rw [hs] at hsb ⊢
          clear hc1 hc2 hl hr hs
          have hsb' : 0 ≤ s ∧ s ≤ 576 := by omega
          have hlb' : 0 ≤ l ∧ l ≤ 144 := by omega
          clear hsb hsb2 hlb
          go_upto_region 34 with fail
          obtain ⟨wo, hwo⟩ : ∃ wo : World, wo = wr := ⟨_, rfl⟩
          subst hwo
          go_cut [245] from 200 to 244 (fun c wx => c = .bool false ∧ Ext wo wx)
          case first =>
            rcases hfact with ⟨rfl, rfl⟩ | ⟨rfl, rfl⟩ | ⟨hl2, hr0, hlr⟩
            · have hM0 : (0 : Int) < M := by omega
              have hM0n : 0 < M := by omega
              have hM0b : decide ((0 : Int) < M) = true := decide_eq_true hM0
              have hM0c : decide ((0 : Int) * 0 < M) = true := decide_eq_true hM0
              have hM0d : decide (IntKind.i64.wrap ((0 : Int) * 0) < M) = true := decide_eq_true hM0
              have hM0e : decide (IntKind.i64.wrap 0 < (M : Int)) = true := decide_eq_true hM0
              go_quiet (fail)
              clear hM0n hM0b hM0c hM0d hM0e
              go_wp2
              go_meet
              exact ⟨by simp, (by with_reducible (repeat (first | exact Ext.refl _ | apply Ext.drewN | apply Ext.drew | apply Ext.alloc | (refine Ext.set ?_ (by first | (simp; done) | (simp; omega) | omega) _) | (refine Ext.trans ?_ (by assumption)))))⟩
            · have hM0 : ¬ (M : Int) = 0 := by omega
              have hM1 : ¬ M = 0 := by omega
              have hMb0 : ((M : Int) == 0) = false := beq_eq_false_iff_ne.2 hM0
              have hMb1 : (M == 0) = false := beq_eq_false_iff_ne.2 hM1
              have hMb2 : decide ((M : Int) < M) = false := decide_eq_false (by omega)
              have hM2 : IntKind.i64.wrap (1 * (M : Int)) = M := by rw [Int.one_mul]; exact IntWalk.i64_in _ (by omega)
              have hM3 : IntKind.i64.wrap (M : Int) = M := IntWalk.i64_in _ (by omega)
              go_quiet (fail)
              clear hM0 hM1 hMb0 hMb1 hMb2 hM2 hM3
              go_wp2
              go_meet
              exact ⟨by simp, (by with_reducible (repeat (first | exact Ext.refl _ | apply Ext.drewN | apply Ext.drew | apply Ext.alloc | (refine Ext.set ?_ (by first | (simp; done) | (simp; omega) | omega) _) | (refine Ext.trans ?_ (by assumption)))))⟩
            · have hl0 : ¬ l = 0 := by omega
              have hl1 : ¬ l = 1 := by omega
              have hr1 : ¬ r = 0 := by omega
              have hp1 : l * r ≤ 144 * 318 := Int.mul_le_mul (by omega) (by omega) (by omega) (by omega)
              have hM2 : IntKind.i64.wrap (l * r) = l * r := IntWalk.i64_in _ (by omega)
              have hM3 : ¬ l * r < (M : Int) := by omega
              have hl0b : (l == 0) = false := beq_eq_false_iff_ne.2 hl0
              have hl1b : (l == 1) = false := beq_eq_false_iff_ne.2 hl1
              have hr1b : (r == 0) = false := beq_eq_false_iff_ne.2 hr1
              have hM3b : decide (l * r < (M : Int)) = false := decide_eq_false hM3
              clear hl0 hl1 hr1 hp1
              go_quiet (fail)
              clear hM2 hM3 hM3b hl0b hl1b hr1b
              go_wp2
              go_meet
              exact ⟨by simp, (by with_reducible (repeat (first | exact Ext.refl _ | apply Ext.drewN | apply Ext.drew | apply Ext.alloc | (refine Ext.set ?_ (by first | (simp; done) | (simp; omega) | omega) _) | (refine Ext.trans ?_ (by assumption)))))⟩
          case rest =>
            obtain ⟨rfl, hx2⟩ := hcut
            have hxc := hx.trans hx2
            go_wp2
            go_roundw
            case rel => first | exact ⟨⟨k + 1, by omega, by go_num, by rw [HS.out], hxc⟩⟩ | ((repeat apply Exists.intro); refine ⟨?_, rfl⟩; exact ⟨⟨k + 1, by omega, by go_num, by rw [HS.out], hxc⟩⟩)
            case measure => simp [intOf]; omega
        · obtain rfl : k = H := by omega
          rw [HALL.out]
          go_wp2
          go_ret
          exact ⟨by simp, Ext.below (hE_14.trans hx)⟩
end Go.Proofs.Ytdmjmnkcnohhlaa.fnLoads
