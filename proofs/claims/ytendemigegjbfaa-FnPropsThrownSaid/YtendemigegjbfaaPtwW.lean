/- The walk of laws.FnPropsThrown: a prop that is thrown lands at its next throw, and all props but the one that is thrown are in the air after a while. No condition. -/
import Derived.Test.YtendemigegjbfaaPtl
namespace Go.Proofs.Ytendemigegjbfaa
set_option linter.unusedVariables false
set_option linter.unusedSimpArgs false
open Go.RowKit Go.Joins

namespace fnPropsThrown
set_option maxHeartbeats 16000000 in
set_option maxRecDepth 100000 in
theorem walk (A : Option Addr) (n c : Nat) (xs : List Int) (w : World) (hI : Byts w A n xs) :
    Calls Try.prog 3 #[.slice A n c] w fun e w' => e = .returned (.bool true) ∧ Below w.heap.size w w' := by
  have hsn := hI.small
  cases hl : decide (4096 < n)
  rotate_left
  · have HL := Lib.hid hl
    clear hl
    go_enter Try.func3, Try.ntmps3
    go_wp2_with fail
    (with_reducible refine (f6bigL_any _ _ _ _ hsn).mono ?_)
    rw [HL.out]
    rintro e w' ⟨rfl, rfl⟩
    go_wp2
    go_ret
    exact ⟨rfl, Ext.below (Ext.refl _)⟩
  have HL := Lib.hid hl
  clear hl
  go_enter Try.func3, Try.ntmps3
  go_wp2_with fail
  (with_reducible refine (f6bigL_any _ _ _ _ hsn).mono ?_)
  rw [HL.out]
  rintro e w' ⟨rfl, rfl⟩
  go_wp2_with fail
  (with_reducible refine (DrawThrownProps_any A n c xs _ hI).mono ?_)
  rintro e w1 ⟨P, M, cP, ps, t, rfl, hP, ht, hx1⟩
  have hE1 : Ext w w1 := hx1
  obtain ⟨r1, hr1⟩ : ∃ r, rcd ps t = r := ⟨_, rfl⟩
  obtain ⟨n1, hn1⟩ : ∃ r, thpn ps t = r := ⟨_, rfl⟩
  have hb1 := thps_bd ps t
  have hb2 := acs_bd ps t
  rw [hn1] at hb1 hb2
  have HR1 := Lib.hid hr1
  have HN1 := Lib.hid hn1
  clear hr1 hn1
  go_wp2_with fail
  (with_reducible refine (implThrownProps_ret P M cP ps t _ hP).mono ?_)
  rw [HR1.out, HN1.out]
  rintro e w2 ⟨A1, c1, rfl, R1, hx2⟩
  have hE2 : Ext w w2 := Ext.trans hE1 hx2
  have hX2 : Ext w1 w2 := hx2
  go_wp2_with fail
  (with_reducible refine (specThrownProps_ret P M cP ps t _ (hP.ext hX2)).mono ?_)
  rw [HR1.out, HN1.out]
  rintro e w3 ⟨A2, c2, rfl, R2, hx3⟩
  have hE3 : Ext w w3 := Ext.trans hE2 hx3
  have hX3 : Ext w2 w3 := hx3
  go_wp2_with fail
  (with_reducible refine (implAirCounts_ret P M cP ps t _ ((hP.ext hX2).ext hX3)).mono ?_)
  rw [HR1.out, HN1.out]
  rintro e w4 ⟨A3, c3, rfl, R3, hx4⟩
  have hE4 : Ext w w4 := Ext.trans hE3 hx4
  have hX4 : Ext w3 w4 := hx4
  go_wp2_with fail
  (with_reducible refine (specAirCounts_ret P M cP ps t _ (((hP.ext hX2).ext hX3).ext hX4)).mono ?_)
  rw [HR1.out, HN1.out]
  rintro e w5 ⟨A4, c4, rfl, R4, hx5⟩
  have hE5 : Ext w w5 := Ext.trans hE4 hx5
  have hX5 : Ext w4 w5 := hx5
  have hP5 : Ints w5 P M ps := (((hP.ext hX2).ext hX3).ext hX4).ext hX5
  have I1 : Ints w5 A1 n1 (thps ps t) := rowInts (((R1.ext hX3).ext hX4).ext hX5) hb1.1 hb1.2
  have I2 : Ints w5 A2 n1 (thps ps t) := rowInts ((R2.ext hX4).ext hX5) hb1.1 hb1.2
  have I3 : Ints w5 A3 n1 (acs ps t) := rowInts (R3.ext hX5) hb2.1 hb2.2
  have I4 : Ints w5 A4 n1 (acs ps t) := rowInts R4 hb2.1 hb2.2
  clear R1 R2 R3 R4 hP hX2 hX3 hX4 hX5 hx2 hx3 hx4 hx5 hE1 hE2 hE3 hE4
  go_wp2_with fail
  (with_reducible refine (DrawPropBeats_any A n c xs _ (hI.ext hE5)).mono ?_)
  rintro e w6 ⟨Q, L, cQ, qs, pp, tt, rfl, hQ, hpp, htt, hx6⟩
  have hE6 : Ext w w6 := Ext.trans hE5 hx6
  obtain ⟨r3, hr3⟩ : ∃ r, pbc qs pp tt = r := ⟨_, rfl⟩
  obtain ⟨n3, hn3⟩ : ∃ r, pbln qs pp tt = r := ⟨_, rfl⟩
  have hb3 := pbl_bd qs pp tt
  rw [hn3] at hb3
  have HR3 := Lib.hid hr3
  have HN3 := Lib.hid hn3
  clear hr3 hn3
  go_wp2_with fail
  (with_reducible refine (implPropBeats_ret Q L cQ qs pp tt _ hQ).mono ?_)
  rw [HR3.out, HN3.out]
  rintro e w7 ⟨A5, c5, rfl, R5, hx7⟩
  have hE7 : Ext w w7 := Ext.trans hE6 hx7
  have hX7 : Ext w6 w7 := hx7
  go_wp2_with fail
  (with_reducible refine (specPropBeats_ret Q L cQ qs pp tt _ (hQ.ext hX7)).mono ?_)
  rw [HR3.out, HN3.out]
  rintro e w8 ⟨A6, c6, rfl, R6, hx8⟩
  have hE8 : Ext w w8 := Ext.trans hE7 hx8
  have hX8 : Ext w7 w8 := hx8
  have hQ8 : Ints w8 Q L qs := (hQ.ext hX7).ext hX8
  have I5 : Ints w8 A5 n3 (pbl qs pp tt) := rowInts (R5.ext hX8) hb3.1 hb3.2
  have I6 : Ints w8 A6 n3 (pbl qs pp tt) := rowInts R6 hb3.1 hb3.2
  have hY : Ext w5 w8 := Ext.trans hx6 (Ext.trans hX7 hX8)
  clear R5 R6 hQ hX7 hX8 hx6 hx7 hx8 hE5 hE6 hE7
  go_wp2_with fail
  (with_reducible refine (DrawColumnOf_any A n c xs _ (hI.ext hE8)).mono ?_)
  rintro e w9 ⟨S, sM, cS, ss, q, rfl, hS, hq, hx9⟩
  have hE9 : Ext w w9 := Ext.trans hE8 hx9
  go_wp2_with fail
  (with_reducible refine (implColumnOf_ret S sM cS ss q _ hS).mono ?_)
  rintro e w10 ⟨rfl, hx10⟩
  have hE10 : Ext w w10 := Ext.trans hE9 hx10
  have hX10 : Ext w9 w10 := hx10
  go_wp2_with fail
  (with_reducible refine (specColumnOf_ret S sM cS ss q _ (hS.ext hX10)).mono ?_)
  rintro e w11 ⟨rfl, hx11⟩
  have hE11 : Ext w w11 := Ext.trans hE10 hx11
  have hX11 : Ext w10 w11 := hx11
  have hZ : Ext w8 w11 := Ext.trans hx9 (Ext.trans hX10 hX11)
  have hW : Ext w5 w11 := Ext.trans hY hZ
  clear hS hX10 hX11 hx9 hx10 hx11 hE8 hE9 hE10
  generalize cos ss q = tx at *
  generalize coc ss q = r5 at *
  go_wp2_with fail
  (with_reducible refine (f6intsL_same A1 A2 n1 c1 c2 (thps ps t) _ (I1.ext hW) (I2.ext hW)).mono ?_)
  rintro e w12 ⟨rfl, hx12⟩
  go_wp2_with fail
  (with_reducible refine (f6intsL_same A3 A4 n1 c3 c4 (acs ps t) _ ((I3.ext hW).ext hx12) ((I4.ext hW).ext hx12)).mono ?_)
  rintro e w13 ⟨rfl, hx13⟩
  go_wp2_with fail
  (with_reducible refine (f6intsL_same A5 A6 n3 c5 c6 (pbl qs pp tt) _ (((I5.ext hZ).ext hx12).ext hx13) (((I6.ext hZ).ext hx12).ext hx13)).mono ?_)
  rintro e w14 ⟨rfl, hx14⟩
  have hV : Ext w11 w14 := Ext.trans hx12 (Ext.trans hx13 hx14)
  have hE14 : Ext w w14 := Ext.trans hE11 hV
  have hP14 := (hP5.ext hW).ext hV
  have J1 := (I1.ext hW).ext hV
  have J3 := (I3.ext hW).ext hV
  have J5 := (I5.ext hZ).ext hV
  have hQ14 := (hQ8.ext hZ).ext hV
  clear I1 I2 I3 I4 I5 I6 hP5 hQ8 hY hZ hW hV hx12 hx13 hx14 hE11
  by_cases h3 : r3 = 0
  · subst h3
    obtain ⟨hrc, hpb3⟩ := pbc_zero HR3.out
    obtain ⟨hvq, htt0, htt60⟩ := rcd_zero hrc
    obtain ⟨K, rfl⟩ : ∃ K : Nat, tt = K := ⟨tt.toNat, by omega⟩
    have hpp0 := (btw_iff.1 hpb3).1
    have HVQ := Lib.hid hvq
    have HNX : Hid (∀ i, i < n3 → ∃ a : Nat, (pbl qs pp (K : Int))[i]?.getD 0 = a ∧ a < 100 ∧ (i + 1 < n3 → (pbl qs pp (K : Int))[i + 1]?.getD 0 = (a : Int) + thAt qs a)) := by
      show ∀ i, _
      have e : pbl qs pp (K : Int) = pbs (thAt qs) pp K := by unfold pbl; rw [if_pos HR3.out]; simp
      have el : n3 = (pbs (thAt qs) pp K).length := by rw [← e]; exact J5.len.symm
      intro i hi
      rw [e]
      rw [el] at hi ⊢
      obtain ⟨a, a1, a2, a3, a4, a5⟩ := pbs_next (thAt_endless hvq) hpp0 K i hi
      exact ⟨a, a1, by omega, a4⟩
    clear hvq hrc hpb3
    go_wp2_with fail
    go_loopw [26] (fun i wr => ∃ j : Nat, (j < n3 ∨ j = 0) ∧ i = .int .i64 ((j : Int) + 1) ∧ Ext w14 wr) (fun i _ => n3 + 1 - (intOf i).toNat)
    case atStart => exact ⟨0, .inr rfl, rfl, Ext.refl _⟩
    case round =>
      obtain ⟨j, hj, rfl, hxj⟩ := hrel
      by_cases hj1 : j + 1 < n3
      · have hji : (j : Int) + 1 < n3 := by omega
        obtain ⟨b5, o5, e5, z5, f5⟩ := (J5.ext hxj).at_ (by omega)
        have k5 := f5 j (by omega)
        have k6 := f5 (j + 1) hj1
        obtain ⟨a, a1, a2, a3⟩ := HNX.out j (by omega)
        rw [a1] at k5
        rw [a3 hj1] at k6
        have hth := thAt_bd HVQ.out (a : Int)
        have hai : (0 : Int) ≤ a ∧ (a : Int) < 100 := by omega
        have HBT : Hid (btw (a : Int) (-1000000) 1000000 = true) := btw_iff.2 (by omega)
        clear f5 a1 a3
        subst e5
        obtain ⟨hh, hhe⟩ : ∃ hh, thAt qs (a : Int) = hh := ⟨_, rfl⟩
        rw [hhe] at hth k6
        have HH := Lib.hid hhe
        clear hhe
        have haw : IntKind.i64.wrap ((a : Int) + hh) = (a : Int) + hh := IntWalk.i64_in _ (by omega)
        go_wp2_with fail
        (with_reducible refine (ThrowAt_yes Q L cQ qs a hh _ (hQ14.ext hxj) HVQ HBT HH).mono ?_)
        rintro e w15 ⟨rfl, hx15⟩
        have k5n := hx15.cell z5 k5
        have k6n := hx15.cell z5 k6
        clear k5 k6
        go_wp2_with fail
        go_quiet (fail)
        go_wp2
        go_roundw
        case rel => exact ⟨j + 1, .inl hj1, by go_num, Ext.trans hxj (Ext.trans hx15 (by with_reducible (repeat (first | exact Ext.refl _ | apply Ext.drewN | apply Ext.drew | apply Ext.alloc | (refine Ext.set ?_ (by first | (simp; done) | (simp; omega) | omega) _) | (refine Ext.trans ?_ (by assumption))))))⟩
        case measure => simp [intOf]; omega
      · have hji : ¬ (j : Int) + 1 < n3 := by omega
        obtain ⟨wj, hwj⟩ : ∃ wj, wj = wr := ⟨_, rfl⟩
        subst hwj
        have HJ1 := Lib.hid J1
        have HJ3 := Lib.hid J3
        clear J1 J3
        by_cases h1 : r1 = 0
        · subst h1
          obtain ⟨hv, ht0, ht60⟩ := rcd_zero HR1.out
          obtain ⟨T, rfl⟩ : ∃ T : Nat, t = T := ⟨t.toNat, by omega⟩
          have hTn : n1 = T := by rw [← HN1.out]; unfold thpn; rw [if_pos HR1.out]; simp
          subst hTn
          have HV := Lib.hid hv
          have HLw : Hid (∀ b, airc (thAt ps) b ≤ prp ps ∧ plr (thAt ps) b < prp ps + (if plr (thAt ps) b < 0 then 1 else 0) ∧ (15 ≤ b → 0 ≤ plr (thAt ps) b → airc (thAt ps) b = prp ps - 1) ∧ (15 ≤ b → plr (thAt ps) b < 0 → airc (thAt ps) b = prp ps)) := fun b => by
            have := air_law (thAt_endless hv) b
            rwa [← prp_crs hv (-1)] at this
          have hpb := prp_bd hv
          have HL1 : Hid (thps ps (n1 : Int) = (pls (thAt ps) n1).1) := by show _ = _; unfold thps; rw [if_pos HR1.out]; simp
          have HL3 : Hid (acs ps (n1 : Int) = acl (thAt ps) n1) := by show _ = _; unfold acs; rw [if_pos HR1.out]; simp
          clear hv ht0 ht60
          generalize hprp : prp ps = N at *
          have HPN := Lib.hid hprp
          clear hprp
          go_wp2_with fail
          (with_reducible refine (implPropsOf_yes P M cP ps N _ (hP14.ext hxj) HV HPN).mono ?_)
          rintro e w20 ⟨rfl, hx20⟩
          go_wp2_with fail
          go_loopw [31] (fun i wr => ∃ b : Nat, b ≤ n1 ∧ i = .int .i64 b ∧ Ext w20 wr) (fun i _ => n1 - (intOf i).toNat)
          case atStart => exact ⟨0, by omega, rfl, Ext.refl _⟩
          case round =>
            obtain ⟨b, hb, rfl, hxr⟩ := hrel
            by_cases hbT : b < n1
            · have hbi : (b : Int) < n1 := by omega
              obtain ⟨b1, o1, e1, z1, f1⟩ := ((HJ1.out.ext (Ext.trans hxj hx20)).ext hxr).at_ (by omega)
              obtain ⟨b3, o3, e3, z3, f3⟩ := ((HJ3.out.ext (Ext.trans hxj hx20)).ext hxr).at_ (by omega)
              have k1 := f1 b hbT
              have k3 := f3 b hbT
              rw [HL1.out, pls_get (thAt ps) hbT] at k1
              rw [HL3.out, show (acl (thAt ps) n1)[b]?.getD 0 = airc (thAt ps) b by simp [acl, hbT]] at k3
              obtain ⟨l1, l2, l3, l4⟩ := HLw.out b
              have hrg := plr_rng (thAt_endless HV.out) b
              clear f1 f3
              subst e1 e3
              generalize airc (thAt ps) b = av at *
              generalize plr (thAt ps) b = pv at *
              have g1 : ¬ N < av := by omega
              have g2 : ¬ N ≤ pv := by split at l2 <;> omega
              have hNw : IntKind.i64.wrap (N - 1) = N - 1 := IntWalk.i64_in _ (by omega)
              clear l1 l2
              by_cases h15 : 15 ≤ b
              · have h15i : (15 : Int) ≤ b := by omega
                by_cases hpv : pv < 0
                · obtain rfl := l4 h15 hpv
                  have hpv2 : ¬ (0 : Int) ≤ pv := by omega
                  clear l3 l4
                  go_wp2
                  go_roundw
                  case rel => exact ⟨b + 1, by omega, by go_num, hxr⟩
                  case measure => simp [intOf]; omega
                · have hpv2 : (0 : Int) ≤ pv := by omega
                  obtain rfl := l3 h15 hpv2
                  clear l3 l4
                  go_wp2
                  go_roundw
                  case rel => exact ⟨b + 1, by omega, by go_num, hxr⟩
                  case measure => simp [intOf]; omega
              · have h15i : ¬ (15 : Int) ≤ b := by omega
                clear l3 l4
                go_wp2
                go_roundw
                case rel => exact ⟨b + 1, by omega, by go_num, hxr⟩
                case measure => simp [intOf]; omega
            · obtain rfl : b = n1 := by omega
              have HX : Hid (Ext w wr) := Ext.trans (Ext.trans hE14 hxj) (Ext.trans hx20 hxr)
              go_wp2
              go_ret
              exact ⟨rfl, Ext.below HX.out⟩
        · have h1b : (r1 == 0) = false := by simpa using h1
          have HX : Hid (Ext w (wj)) := Ext.trans hE14 hxj
          go_wp2
          go_ret
          exact ⟨rfl, Ext.below HX.out⟩
  · have h3b : (r3 == 0) = false := by simpa using h3
    have HJ1 := Lib.hid J1
    have HJ3 := Lib.hid J3
    clear J1 J3
    by_cases h1 : r1 = 0
    · subst h1
      obtain ⟨hv, ht0, ht60⟩ := rcd_zero HR1.out
      obtain ⟨T, rfl⟩ : ∃ T : Nat, t = T := ⟨t.toNat, by omega⟩
      have hTn : n1 = T := by rw [← HN1.out]; unfold thpn; rw [if_pos HR1.out]; simp
      subst hTn
      have HV := Lib.hid hv
      have HLw : Hid (∀ b, airc (thAt ps) b ≤ prp ps ∧ plr (thAt ps) b < prp ps + (if plr (thAt ps) b < 0 then 1 else 0) ∧ (15 ≤ b → 0 ≤ plr (thAt ps) b → airc (thAt ps) b = prp ps - 1) ∧ (15 ≤ b → plr (thAt ps) b < 0 → airc (thAt ps) b = prp ps)) := fun b => by
        have := air_law (thAt_endless hv) b
        rwa [← prp_crs hv (-1)] at this
      have hpb := prp_bd hv
      have HL1 : Hid (thps ps (n1 : Int) = (pls (thAt ps) n1).1) := by show _ = _; unfold thps; rw [if_pos HR1.out]; simp
      have HL3 : Hid (acs ps (n1 : Int) = acl (thAt ps) n1) := by show _ = _; unfold acs; rw [if_pos HR1.out]; simp
      clear hv ht0 ht60
      generalize hprp : prp ps = N at *
      have HPN := Lib.hid hprp
      clear hprp
      go_wp2_with fail
      (with_reducible refine (implPropsOf_yes P M cP ps N _ (hP14) HV HPN).mono ?_)
      rintro e w20 ⟨rfl, hx20⟩
      go_wp2_with fail
      go_loopw [31] (fun i wr => ∃ b : Nat, b ≤ n1 ∧ i = .int .i64 b ∧ Ext w20 wr) (fun i _ => n1 - (intOf i).toNat)
      case atStart => exact ⟨0, by omega, rfl, Ext.refl _⟩
      case round =>
        obtain ⟨b, hb, rfl, hxr⟩ := hrel
        by_cases hbT : b < n1
        · have hbi : (b : Int) < n1 := by omega
          obtain ⟨b1, o1, e1, z1, f1⟩ := ((HJ1.out.ext (hx20)).ext hxr).at_ (by omega)
          obtain ⟨b3, o3, e3, z3, f3⟩ := ((HJ3.out.ext (hx20)).ext hxr).at_ (by omega)
          have k1 := f1 b hbT
          have k3 := f3 b hbT
          rw [HL1.out, pls_get (thAt ps) hbT] at k1
          rw [HL3.out, show (acl (thAt ps) n1)[b]?.getD 0 = airc (thAt ps) b by simp [acl, hbT]] at k3
          obtain ⟨l1, l2, l3, l4⟩ := HLw.out b
          have hrg := plr_rng (thAt_endless HV.out) b
          clear f1 f3
          subst e1 e3
          generalize airc (thAt ps) b = av at *
          generalize plr (thAt ps) b = pv at *
          have g1 : ¬ N < av := by omega
          have g2 : ¬ N ≤ pv := by split at l2 <;> omega
          have hNw : IntKind.i64.wrap (N - 1) = N - 1 := IntWalk.i64_in _ (by omega)
          clear l1 l2
          by_cases h15 : 15 ≤ b
          · have h15i : (15 : Int) ≤ b := by omega
            by_cases hpv : pv < 0
            · obtain rfl := l4 h15 hpv
              have hpv2 : ¬ (0 : Int) ≤ pv := by omega
              clear l3 l4
              go_wp2
              go_roundw
              case rel => exact ⟨b + 1, by omega, by go_num, hxr⟩
              case measure => simp [intOf]; omega
            · have hpv2 : (0 : Int) ≤ pv := by omega
              obtain rfl := l3 h15 hpv2
              clear l3 l4
              go_wp2
              go_roundw
              case rel => exact ⟨b + 1, by omega, by go_num, hxr⟩
              case measure => simp [intOf]; omega
          · have h15i : ¬ (15 : Int) ≤ b := by omega
            clear l3 l4
            go_wp2
            go_roundw
            case rel => exact ⟨b + 1, by omega, by go_num, hxr⟩
            case measure => simp [intOf]; omega
        · obtain rfl : b = n1 := by omega
          have HX : Hid (Ext w wr) := Ext.trans (hE14) (Ext.trans hx20 hxr)
          go_wp2
          go_ret
          exact ⟨rfl, Ext.below HX.out⟩
    · have h1b : (r1 == 0) = false := by simpa using h1
      have HX : Hid (Ext w (w14)) := hE14
      go_wp2
      go_ret
      exact ⟨rfl, Ext.below HX.out⟩
end fnPropsThrown
end Go.Proofs.Ytendemigegjbfaa
