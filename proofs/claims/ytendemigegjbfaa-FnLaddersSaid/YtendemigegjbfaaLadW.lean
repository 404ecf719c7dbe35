/- The walk of laws.FnLadders: a picture of throws has no wrong line, and its columns tell its throws. No condition. -/
import Derived.Test.YtendemigegjbfaaPtl
import Derived.Test.YtendemigegjbfaaLpl
namespace Go.Proofs.Ytendemigegjbfaa
set_option linter.unusedVariables false
set_option linter.unusedSimpArgs false
open Go.RowKit Go.Joins

theorem f6texts_same (A B : Option Addr) (n c d : Nat) (ss : List ByteArray) (w : World) (hI : Strs w A n ss) (hJ : Strs w B n ss) :
    Calls Try.prog 31 #[.slice A n c, .slice B n d] w (fun e w' => e = .returned (.bool true) ∧ Ext w w') := by
  have hs := hI.small
  go_enter Try.func31, Try.ntmps31
  go_wp2
  go_loopw [5] (fun i wr => ∃ k : Nat, k ≤ n ∧ i = .int .i64 k ∧ Ext w wr) (fun i _ => n - (intOf i).toNat)
  case atStart => exact ⟨0, Nat.zero_le _, rfl, Ext.refl _⟩
  case round =>
    obtain ⟨k, hk, rfl, hx⟩ := hrel
    by_cases hlt : k < n
    · obtain ⟨b, off, hA, hb, hcell⟩ := (hI.ext hx).at_ (by omega)
      obtain ⟨b2, off2, hB, hb2, hcell2⟩ := (hJ.ext hx).at_ (by omega)
      subst hA hB
      have c1 := hcell k hlt
      have c2 := hcell2 k hlt
      have i1 : (k : Int) < n := by omega
      clear hcell hcell2
      generalize gs ss k = s0 at *
      go_wp2
      go_quiet (fail)
      go_wp2
      go_roundw
      case rel => exact ⟨k + 1, by omega, by go_num, Ext.trans hx (by with_reducible (repeat (first | exact Ext.refl _ | apply Ext.drewN | apply Ext.drew | apply Ext.alloc | (refine Ext.set ?_ (by first | (simp; done) | (simp; omega) | omega) _) | (refine Ext.trans ?_ (by assumption)))))⟩
      case measure => simp [intOf]; omega
    · obtain rfl : k = n := by omega
      go_wp2
      go_ret
      exact ⟨rfl, hx⟩
theorem told_is (h : Int → Int) {n N t : Nat} (e : Endless h n) {i : Nat} (hi : i < t) (hp : plr h i < N) : told (ldl h N t) i = h i ∨ (told (ldl h N t) i = -1 ∧ ¬ (i : Int) + h i < t) := by
  rw [told_ldl e hi hp]
  split
  · exact .inl rfl
  · split
    · left; omega
    · right; exact ⟨rfl, by assumption⟩
namespace fnLadders
set_option maxHeartbeats 16000000 in
set_option maxRecDepth 100000 in
theorem walk (A : Option Addr) (n c : Nat) (xs : List Int) (w : World) (hI : Byts w A n xs) :
    Calls Try.prog 4 #[.slice A n c] w fun e w' => e = .returned (.bool true) ∧ Below w.heap.size w w' := by
  have hsn := hI.small
  cases hl : decide (4096 < n)
  rotate_left
  · have HL := Lib.hid hl
    clear hl
    go_enter Try.func4, Try.ntmps4
    go_wp2_with fail
    (with_reducible refine (f6bigL_any _ _ _ _ hsn).mono ?_)
    rw [HL.out]
    rintro e w' ⟨rfl, rfl⟩
    go_wp2
    go_ret
    exact ⟨rfl, Ext.below (Ext.refl _)⟩
  have HL := Lib.hid hl
  clear hl
  go_enter Try.func4, Try.ntmps4
  go_wp2_with fail
  (with_reducible refine (f6bigL_any _ _ _ _ hsn).mono ?_)
  rw [HL.out]
  rintro e w' ⟨rfl, rfl⟩
  go_wp2_with fail
  (with_reducible refine (DrawLadderOf_any A n c xs _ hI).mono ?_)
  rintro e w1 ⟨P, M, cP, ps, t, rfl, hP, ht, hx1⟩
  have hE1 : Ext w w1 := hx1
  obtain ⟨r1, hr1⟩ : ∃ r, rcd ps t = r := ⟨_, rfl⟩
  obtain ⟨n1, hn1⟩ : ∃ r, thpn ps t = r := ⟨_, rfl⟩
  have hb1 := lds_bd ps t
  rw [hn1] at hb1
  have HR1 := Lib.hid hr1
  have HN1 := Lib.hid hn1
  clear hr1 hn1
  go_wp2_with fail
  (with_reducible refine (implLadderOf_ret P M cP ps t _ hP).mono ?_)
  rw [HR1.out, HN1.out]
  rintro e w2 ⟨A1, c1, rfl, R1, hx2⟩
  have hE2 : Ext w w2 := Ext.trans hE1 hx2
  have hX2 : Ext w1 w2 := hx2
  go_wp2_with fail
  (with_reducible refine (specLadderOf_ret P M cP ps t _ (hP.ext hX2)).mono ?_)
  rw [HR1.out, HN1.out]
  rintro e w3 ⟨A2, c2, rfl, R2, hx3⟩
  have hE3 : Ext w w3 := Ext.trans hE2 hx3
  have hX3 : Ext w2 w3 := hx3
  have hP3 : Ints w3 P M ps := (hP.ext hX2).ext hX3
  have I1 : Strs w3 A1 n1 (lds ps t) := (R1.strs (by omega) hb1.2).ext hX3
  have I2 : Strs w3 A2 n1 (lds ps t) := R2.strs (by omega) hb1.2
  have hcap1 : n1 ≤ c1 := ownr_cap R1.own
  clear R1 R2 hP hX2 hX3 hx2 hx3 hE1 hE2
  go_wp2_with fail
  (with_reducible refine (DrawHandLadder_any A n c xs _ (hI.ext hE3)).mono ?_)
  rintro e w4 ⟨Q, L, cQ, qs, C, l, cC, os, tt, rfl, hQ, hC, htt, hx4⟩
  have hE4 : Ext w w4 := Ext.trans hE3 hx4
  obtain ⟨r2, hr2⟩ : ∃ r, hlc qs os tt = r := ⟨_, rfl⟩
  obtain ⟨n2, hn2⟩ : ∃ r, hlk qs os tt = r := ⟨_, rfl⟩
  have hb2 := hls_bd qs os tt
  rw [hn2] at hb2
  have HR2 := Lib.hid hr2
  have HN2 := Lib.hid hn2
  clear hr2 hn2
  go_wp2_with fail
  (with_reducible refine (implHandLadder_ret Q L cQ qs C l cC os tt _ hQ hC).mono ?_)
  rw [HR2.out, HN2.out]
  rintro e w5 ⟨A3, c3, rfl, R3, hx5⟩
  have hE5 : Ext w w5 := Ext.trans hE4 hx5
  have hX5 : Ext w4 w5 := hx5
  go_wp2_with fail
  (with_reducible refine (specHandLadder_ret Q L cQ qs C l cC os tt _ (hQ.ext hX5) (hC.ext hX5)).mono ?_)
  rw [HR2.out, HN2.out]
  rintro e w6 ⟨A4, c4, rfl, R4, hx6⟩
  have hE6 : Ext w w6 := Ext.trans hE5 hx6
  have hX6 : Ext w5 w6 := hx6
  have I3 : Strs w6 A3 n2 (hls qs os tt) := (R3.strs (by omega) hb2.2).ext hX6
  have I4 : Strs w6 A4 n2 (hls qs os tt) := R4.strs (by omega) hb2.2
  have hY : Ext w3 w6 := Ext.trans hx4 (Ext.trans hX5 hX6)
  clear R3 R4 hQ hC hX5 hX6 hx4 hx5 hx6 hE3 hE4 hE5
  go_wp2_with fail
  (with_reducible refine (DrawCheckLadder_any A n c xs _ (hI.ext hE6)).mono ?_)
  rintro e w7 ⟨S, sM, cS, ss, rfl, hS, hcS, hx7⟩
  have hE7 : Ext w w7 := Ext.trans hE6 hx7
  go_wp2_with fail
  (with_reducible refine (implCheckLadder_ret S sM cS ss _ hS hcS).mono ?_)
  rintro e w8 ⟨rfl, hx8⟩
  have hE8 : Ext w w8 := Ext.trans hE7 hx8
  have hX8 : Ext w7 w8 := hx8
  go_wp2_with fail
  (with_reducible refine (specCheckLadder_ret S sM cS ss _ (hS.ext hX8)).mono ?_)
  rintro e w9 ⟨rfl, hx9⟩
  have hE9 : Ext w w9 := Ext.trans hE8 hx9
  have hX9 : Ext w8 w9 := hx9
  have hb3 := tls_bd ss
  go_wp2_with fail
  (with_reducible refine (implLadderThrows_ret S sM cS ss _ ((hS.ext hX8).ext hX9)).mono ?_)
  rintro e w10 ⟨A5, c5, rfl, R5, hx10⟩
  have hE10 : Ext w w10 := Ext.trans hE9 hx10
  have hX10 : Ext w9 w10 := hx10
  go_wp2_with fail
  (with_reducible refine (specLadderThrows_ret S sM cS ss _ (((hS.ext hX8).ext hX9).ext hX10)).mono ?_)
  rintro e w11 ⟨A6, c6, rfl, R6, hx11⟩
  have hE11 : Ext w w11 := Ext.trans hE10 hx11
  have hX11 : Ext w10 w11 := hx11
  have I5 : Ints w11 A5 (tln ss) (tls ss) := rowInts (R5.ext hX11) hb3.1 hb3.2
  have I6 : Ints w11 A6 (tln ss) (tls ss) := rowInts R6 hb3.1 hb3.2
  have hZ : Ext w6 w11 := Ext.trans hx7 (Ext.trans hX8 (Ext.trans hX9 (Ext.trans hX10 hX11)))
  have hW : Ext w3 w11 := Ext.trans hY hZ
  clear R5 R6 hS hX8 hX9 hX10 hX11 hx7 hx8 hx9 hx10 hx11 hE6 hE7 hE8 hE9 hE10 hb3
  generalize ckl ss = r3 at *
  generalize lfc ss = r5 at *
  generalize tln ss = n3 at *
  generalize tls ss = ts at *
  go_wp2_with fail
  (with_reducible refine (f6texts_same A1 A2 n1 c1 c2 (lds ps t) _ (I1.ext hW) (I2.ext hW)).mono ?_)
  rintro e w12 ⟨rfl, hx12⟩
  go_wp2_with fail
  (with_reducible refine (f6texts_same A3 A4 n2 c3 c4 (hls qs os tt) _ ((I3.ext hZ).ext hx12) ((I4.ext hZ).ext hx12)).mono ?_)
  rintro e w13 ⟨rfl, hx13⟩
  go_wp2_with fail
  (with_reducible refine (f6intsL_same A5 A6 n3 c5 c6 ts _ ((I5.ext hx12).ext hx13) ((I6.ext hx12).ext hx13)).mono ?_)
  rintro e w14 ⟨rfl, hx14⟩
  have hV : Ext w11 w14 := Ext.trans hx12 (Ext.trans hx13 hx14)
  have hE14 : Ext w w14 := Ext.trans hE11 hV
  have hP14 := (hP3.ext hW).ext hV
  have J1 := (I1.ext hW).ext hV
  clear I1 I2 I3 I4 I5 I6 hP3 hY hZ hW hV hx12 hx13 hx14 hE11
  by_cases h1 : r1 = 0
  · subst h1
    obtain ⟨hv, ht0, ht60⟩ := rcd_zero HR1.out
    obtain ⟨T, rfl⟩ : ∃ T : Nat, t = T := ⟨t.toNat, by omega⟩
    have hTn : n1 = T := by rw [← HN1.out]; unfold thpn; rw [if_pos HR1.out]; simp
    subst hTn
    have HV := Lib.hid hv
    have hpb := prp_bd hv
    obtain ⟨N, hN⟩ : ∃ N : Nat, prp ps = N := ⟨(prp ps).toNat, by omega⟩
    have hls : lds ps (n1 : Int) = ldl (thAt ps) N n1 := by unfold lds; rw [if_pos HR1.out, hN]; simp
    have hlt : ∀ b, plr (thAt ps) b < N := fun b => by
      have := (air_law (thAt_endless hv) b).2.1
      rw [← prp_crs hv (-1), hN] at this
      split at this <;> omega
    have HLT := Lib.hid hlt
    obtain ⟨hk1, hk2⟩ := ckl_ldl (t := n1) (thAt_endless hv) (show N ≤ 15 by omega) (by omega) hlt
    have hlf := ldl_lfm (h := thAt ps) (N := N) (t := n1) (thAt_endless hv) (by omega) (by omega)
    have htl : tln (ldl (thAt ps) N n1) = n1 := by unfold tln; rw [if_pos hlf, ldl_len]
    have hts : tls (ldl (thAt ps) N n1) = tll (ldl (thAt ps) N n1) n1 := by unfold tls; rw [if_pos hlf, ldl_len]
    rw [hls] at J1
    have hb5 := tls_bd (ldl (thAt ps) N n1)
    rw [htl] at hb5
    have HK1 := Lib.hid hk1
    have HK2 := Lib.hid hk2
    have HTL := Lib.hid htl
    have HTS := Lib.hid hts
    have ht60i : (n1 : Int) ≤ 60 := ht60
    clear hv hk1 hk2 hlf htl hts hls hlt ht0 hN
    go_wp2_with fail
    (with_reducible refine (implCheckLadder_ret A1 n1 c1 (ldl (thAt ps) N n1) _ J1 hcap1).mono ?_)
    rw [HK1.out, HK2.out]
    rintro e w20 ⟨rfl, hx20⟩
    go_wp2_with fail
    (with_reducible refine (implLadderThrows_ret A1 n1 c1 (ldl (thAt ps) N n1) _ (J1.ext hx20)).mono ?_)
    rw [HK2.out, HTL.out]
    rintro e w21 ⟨A7, c7, rfl, R7, hx21⟩
    have J7 : Ints w21 A7 n1 (tls (ldl (thAt ps) N n1)) := rowInts R7 hb5.1 hb5.2
    have hP21 := (hP14.ext hx20).ext hx21
    have hE21 : Ext w w21 := Ext.trans hE14 (Ext.trans hx20 hx21)
    clear R7 J1 hP14 hE14 hx20 hx21
    go_wp2_with fail
    go_loopw [29] (fun i wr => ∃ b : Nat, b ≤ n1 ∧ i = .int .i64 b ∧ Ext w21 wr) (fun i _ => n1 - (intOf i).toNat)
    case atStart => exact ⟨0, by omega, rfl, Ext.refl _⟩
    case round =>
      obtain ⟨b, hb, rfl, hxr⟩ := hrel
      by_cases hbT : b < n1
      · have hbi : (b : Int) < n1 := by omega
        obtain ⟨b7, o7, e7, z7, f7⟩ := (J7.ext hxr).at_ (by omega)
        have k7 := f7 b hbT
        rw [HTS.out, show (tll (ldl (thAt ps) N n1) n1)[b]?.getD 0 = told (ldl (thAt ps) N n1) b by simp [tll, hbT]] at k7
        have htd := told_is (thAt ps) (thAt_endless HV.out) hbT (HLT.out b)
        have hth := thAt_bd HV.out (b : Int)
        have HBT : Hid (btw (b : Int) (-1000000) 1000000 = true) := btw_iff.2 (by omega)
        clear f7
        subst e7
        generalize told (ldl (thAt ps) N n1) b = td at *
        obtain ⟨hh, hhe⟩ : ∃ hh, thAt ps (b : Int) = hh := ⟨_, rfl⟩
        rw [hhe] at hth htd
        have HH := Lib.hid hhe
        clear hhe
        have hbw : IntKind.i64.wrap ((b : Int) + hh) = (b : Int) + hh := IntWalk.i64_in _ (by omega)
        go_wp2_with fail
        (with_reducible refine (ThrowAt_yes P M cP ps b hh _ (hP21.ext hxr) HV HBT HH).mono ?_)
        rintro e w22 ⟨rfl, hx22⟩
        have k7n := hx22.cell z7 k7
        clear k7
        rcases htd with rfl | ⟨rfl, hno⟩
        · go_wp2
          go_roundw
          case rel => exact ⟨b + 1, by omega, by go_num, Ext.trans hxr hx22⟩
          case measure => simp [intOf]; omega
        · go_wp2
          go_roundw
          case rel => exact ⟨b + 1, by omega, by go_num, Ext.trans hxr hx22⟩
          case measure => simp [intOf]; omega
      · obtain rfl : b = n1 := by omega
        have HX : Hid (Ext w wr) := Ext.trans hE21 hxr
        go_wp2
        go_ret
        exact ⟨rfl, Ext.below HX.out⟩
  · have h1b : (r1 == 0) = false := by simpa using h1
    have HX : Hid (Ext w w14) := hE14
    go_wp2
    go_ret
    exact ⟨rfl, Ext.below HX.out⟩
end fnLadders
end Go.Proofs.Ytendemigegjbfaa
