/- The walk of laws.FnHands: a throw of a common period goes from the hand at its beat to the hand at the beat where it lands. No condition. -/
import Derived.Test.YtdmjmnkcnohhlaaFhd
import Derived.Deep.QuietTactic
import Derived.BigQuiet
namespace Go.Proofs.Ytdmjmnkcnohhlaa.fnHands
set_option linter.unusedVariables false
set_option linter.unusedSimpArgs false
open Go.RowKit Go.Joins

/-- A fact that unification does not open. -/
structure Boxed (p : Prop) : Prop where
  out : p
set_option maxHeartbeats 8000000 in
set_option maxRecDepth 100000 in
theorem walk (A : Option Addr) (n c : Nat) (xs : List Int) (w : World) (hB : Byts w A n xs) :
    Calls Try.prog 4 #[.slice A n c] w fun e w' => e = .returned (.bool true) ∧ Below w.heap.size w w' := by
  have hsn := hB.small
  cases hl : decide (4096 < n)
  rotate_left
  · have HL := Lib.hid hl
    clear hl
    go_enter Try.func4, Try.ntmps4
    go_wp2_with fail
    (with_reducible refine (f6big_any _ _ _ _ hsn).mono ?_)
    rw [HL.out]
    rintro e w' ⟨rfl, rfl⟩
    go_wp2
    go_ret
    exact ⟨rfl, Ext.below (Ext.refl _)⟩
  have HL := Lib.hid hl
  clear hl
  go_enter Try.func4, Try.ntmps4
  go_wp2_with fail
  (with_reducible refine (f6big_any _ _ _ _ hsn).mono ?_)
  rw [HL.out]
  rintro e w' ⟨rfl, rfl⟩
  go_wp2_with fail
  (with_reducible refine (DrawHandThrows_any A n c xs _ hB).mono ?_)
  rintro e w1 ⟨Ap, Ao, np, cp, no, co, ps, os, rfl, hP_1, hO_1, hnp, hno, hE_1⟩
  go_wp2_with fail
  (with_reducible refine (implHandThrows_ret _ _ _ ps _ _ _ os _ hP_1 hO_1).mono ?_)
  rintro e w2 ⟨Al, cl, rfl, Rl_2, hx_2⟩
  have hE_2 := hE_1.trans hx_2
  have hP_2 := hP_1.ext hx_2
  have hO_2 := hO_1.ext hx_2
  go_wp2_with fail
  (with_reducible refine (specHandThrows_ret _ _ _ ps _ _ _ os _ hP_2 hO_2).mono ?_)
  rintro e w3 ⟨Am, cm, rfl, Rm_3, hx_3⟩
  have hE_3 := hE_2.trans hx_3
  have Rl_3 := Rl_2.ext hx_3
  have hP_3 := hP_2.ext hx_3
  have hO_3 := hO_2.ext hx_3
  go_wp2_with fail
  (with_reducible refine (implCommonPeriod_ret _ _ _ _ _ _ ps os _ hP_3 hO_3).mono ?_)
  rintro e w4 ⟨rfl, hx_4⟩
  have hE_4 := hE_3.trans hx_4
  have Rl_4 := Rl_3.ext hx_4
  have Rm_4 := Rm_3.ext hx_4
  have hP_4 := hP_3.ext hx_4
  have hO_4 := hO_3.ext hx_4
  go_wp2_with fail
  (with_reducible refine (specCommonPeriod_ret _ _ _ _ _ _ ps os _ hP_4 hO_4).mono ?_)
  rintro e w5 ⟨rfl, hx_5⟩
  have hE_5 := hE_4.trans hx_5
  have Rl_5 := Rl_4.ext hx_5
  have Rm_5 := Rm_4.ext hx_5
  have hP_5 := hP_4.ext hx_5
  have hO_5 := hO_4.ext hx_5
  go_wp2_with fail
  (with_reducible refine (implCrossingsOf_ret _ _ _ ps _ _ _ os _ hP_5 hO_5).mono ?_)
  rintro e w6 ⟨rfl, hx_6⟩
  have hE_6 := hE_5.trans hx_6
  have Rl_6 := Rl_5.ext hx_6
  have Rm_6 := Rm_5.ext hx_6
  have hP_6 := hP_5.ext hx_6
  have hO_6 := hO_5.ext hx_6
  go_wp2_with fail
  (with_reducible refine (specCrossingsOf_ret _ _ _ ps _ _ _ os _ hP_6 hO_6).mono ?_)
  rintro e w7 ⟨rfl, hx_7⟩
  have hE_7 := hE_6.trans hx_7
  have Rl_7 := Rl_6.ext hx_7
  have Rm_7 := Rm_6.ext hx_7
  have hP_7 := hP_6.ext hx_7
  have hO_7 := hO_6.ext hx_7
  go_wp2_with fail
  (with_reducible refine (DrawHandAt_any A n c xs _ (hB.ext hE_7)).mono ?_)
  rintro e w8 ⟨Aq, nq, cq, qs, t, rfl, hQ_8, hnq, htb, hx_8⟩
  have hE_8 := hE_7.trans hx_8
  have Rl_8 := Rl_7.ext hx_8
  have Rm_8 := Rm_7.ext hx_8
  have hP_8 := hP_7.ext hx_8
  have hO_8 := hO_7.ext hx_8
  go_wp2_with fail
  (with_reducible refine (implHandAt_ret _ _ _ qs t _ hQ_8).mono ?_)
  rintro e w9 ⟨rfl, hx_9⟩
  have hE_9 := hE_8.trans hx_9
  have Rl_9 := Rl_8.ext hx_9
  have Rm_9 := Rm_8.ext hx_9
  have hP_9 := hP_8.ext hx_9
  have hO_9 := hO_8.ext hx_9
  have hQ_9 := hQ_8.ext hx_9
  go_wp2_with fail
  (with_reducible refine (specHandAt_ret _ _ _ qs t _ hQ_9).mono ?_)
  rintro e w10 ⟨rfl, hx_10⟩
  have hE_10 := hE_9.trans hx_10
  have Rl_10 := Rl_9.ext hx_10
  have Rm_10 := Rm_9.ext hx_10
  have hP_10 := hP_9.ext hx_10
  have hO_10 := hO_9.ext hx_10
  have hQ_10 := hQ_9.ext hx_10
  go_wp2_with fail
  (with_reducible refine (implIsAmbidextrous_ret _ _ _ ps _ _ _ os _ hP_10 hO_10).mono ?_)
  rintro e w11 ⟨rfl, hx_11⟩
  have hE_11 := hE_10.trans hx_11
  have Rl_11 := Rl_10.ext hx_11
  have Rm_11 := Rm_10.ext hx_11
  have hP_11 := hP_10.ext hx_11
  have hO_11 := hO_10.ext hx_11
  go_wp2_with fail
  (with_reducible refine (specIsAmbidextrous_ret _ _ _ ps _ _ _ os _ hP_11 hO_11).mono ?_)
  rintro e w12 ⟨rfl, hx_12⟩
  have hE_12 := hE_11.trans hx_12
  have Rl_12 := Rl_11.ext hx_12
  have Rm_12 := Rm_11.ext hx_12
  have hP_12 := hP_11.ext hx_12
  have hO_12 := hO_11.ext hx_12
  by_cases hr : hcd ps os = 0
  rotate_left
  · have h0 : (hcd ps os != 0) = true := by simpa using hr
    have h00 : (hcd ps os == 0) = false := by simpa using hr
    generalize hcd ps os = r at *
    go_wp2
    go_ret
    exact ⟨rfl, Ext.below hE_12⟩
  obtain ⟨hv, ho⟩ := hcd_zero hr
  have HV := Lib.hid hv
  have HO := Lib.hid ho
  have hn12 := (thr_iff.1 (vpat_thr hv)).2
  have hm12 := (vhd_iff ho).1
  rw [hP_1.len] at hn12
  rw [hO_1.len] at hm12
  obtain ⟨M, hM⟩ : ∃ M : Nat, cmp_ np no = M := ⟨_, rfl⟩
  have hMb : 1 ≤ M ∧ M ≤ 144 := by rw [← hM]; exact cmp_bd hn12 hm12
  have hcp : cpv ps os = M := by unfold cpv; rw [if_pos hr, hP_1.len, hO_1.len, hM]
  have hd1 : (M : Int) % np = 0 := by
    have h : M % np = 0 := by rw [← hM]; exact Nat.mod_eq_zero_of_dvd (Nat.dvd_lcm_left np no)
    omega
  have hd2 : (M : Int) % no = 0 := by
    have h : M % no = 0 := by rw [← hM]; exact Nat.mod_eq_zero_of_dvd (Nat.dvd_lcm_right np no)
    omega
  obtain ⟨N, hN⟩ : ∃ N : Nat, tcn ps M = N := ⟨_, rfl⟩
  obtain ⟨ys, hys⟩ : ∃ ys, htr ps os M = ys := ⟨_, rfl⟩
  have hhn : hthn ps os = N := by unfold hthn; rw [if_pos hr, hP_1.len, hO_1.len, hM, hN]
  have hhs : hths ps os = ys := by unfold hths; rw [if_pos hr, hP_1.len, hO_1.len, hM, hys]
  have hcr : crv ps os = crx ys N := by unfold crv; rw [if_pos hr, hP_1.len, hO_1.len, hM, hN, hys]
  have hAT : Hid (∀ i, i < N → ∃ b : Nat, b < M ∧ 0 < thAt ps b ∧ tcn ps b = i ∧ ys[i * 4]?.getD 0 = b ∧ ys[i * 4 + 1]?.getD 0 = thAt ps b ∧ ys[i * 4 + 2]?.getD 0 = thAt os b ∧ ys[i * 4 + 3]?.getD 0 = thAt os ((b : Int) + thAt ps b)) := by
    show ∀ i, _
    rw [← hN, ← hys]
    exact htr_row ps os M
  have hyb : ∀ y ∈ ys, -9223372036854775808 ≤ y ∧ y ≤ 9223372036854775807 := by
    rw [← hys]
    intro y hy
    have := htr_bd hv ho M y hy
    omega
  have hNM : N ≤ M := by rw [← hN]; exact tcn_le ps M
  rw [hhn, hhs] at Rl_12 Rm_12
  have hI1 := Rl_12.ints (by omega) hyb
  have hI2 := Rm_12.ints (by omega) hyb
  have hCX : Hid (crx ys N = crx ys N) := rfl
  have hCB := crx_bd ys N
  rw [hr, hcp, hcr, hhn]
  have HIN := Lib.hid (And.intro hI1 hI2)
  clear hI1 hI2 hyb hhs hhn hcr hcp hN hys hM hr hv ho
  go_wp2
  clear hd1 hd2
  go_loopw [23, 24, 25, 26, 27, 28, 29] (fun s i _ _ _ _ _ wr => Boxed (∃ k : Nat, k ≤ N ∧ i = .int .i64 k ∧ s = .int .i64 (crx ys k) ∧ Ext w12 wr)) (fun _ i _ _ _ _ _ _ => N - (intOf i).toNat)
  case atStart => exact ⟨⟨0, by omega, rfl, rfl, Ext.refl _⟩⟩
  case round =>
    obtain ⟨⟨k, hk, rfl, rfl, hx⟩⟩ := hrel
    by_cases hlt : k < N
    · obtain ⟨b, hbM, hb1, hb2, q0, q1, q2, q3⟩ := hAT.out k hlt
      have hvb := thAt_bd HV.out (b : Int)
      obtain ⟨b1, o1, hA1, hz1, hc1⟩ := (HIN.out.1.ext hx).at_ (by omega)
      obtain ⟨b2, o2, hA2, hz2, hc2⟩ := (HIN.out.2.ext hx).at_ (by omega)
      subst hA1 hA2
      have a0 := hc1 (k * 4) (by omega)
      have a1 := hc1 (k * 4 + 1) (by omega)
      have a2 := hc1 (k * 4 + 2) (by omega)
      have a3 := hc1 (k * 4 + 3) (by omega)
      have d0 := hc2 (k * 4) (by omega)
      have d1 := hc2 (k * 4 + 1) (by omega)
      have d2 := hc2 (k * 4 + 2) (by omega)
      have d3 := hc2 (k * 4 + 3) (by omega)
      rw [← Nat.add_assoc] at a1 a2 a3 d1 d2 d3
      rw [q0] at a0 d0
      rw [q1] at a1 d1
      have HPREV : Hid (∀ j, j + 1 = k → ∃ b' : Nat, b' < b ∧ wr.cell? ⟨b1, o1 + j * 4, none⟩ = some (.int .i64 b')) := by
        show ∀ j, _
        intro j hj
        obtain ⟨b', _, hb1', hb2', p0, _⟩ := hAT.out j (by omega)
        refine ⟨b', ?_, by rw [hc1 (j * 4) (by omega), p0]⟩
        by_cases hbb : b' < b
        · exact hbb
        · have := tcn_mono ps (show b ≤ b' by omega)
          omega
      have hki : (k : Int) < N := by omega
      obtain ⟨v, hv⟩ : ∃ v, thAt ps b = v := ⟨_, rfl⟩
      obtain ⟨f, hf⟩ : ∃ f, ys[k * 4 + 2]?.getD 0 = f := ⟨_, rfl⟩
      obtain ⟨t2, ht2⟩ : ∃ t2, ys[k * 4 + 3]?.getD 0 = t2 := ⟨_, rfl⟩
      have HF : Hid (hav os b = f ∧ hac os b = 0) := by
        have e : hac os b = 0 := by unfold hac; rw [if_pos HO.out, if_pos (btw_iff.2 (by omega))]
        exact ⟨by unfold hav; rw [if_pos e, ← hf, q2], e⟩
      have HT : Hid (hav os ((b : Int) + v) = t2 ∧ hac os ((b : Int) + v) = 0) := by
        have e : hac os ((b : Int) + v) = 0 := by unfold hac; rw [if_pos HO.out, if_pos (btw_iff.2 (by omega))]
        exact ⟨by unfold hav; rw [if_pos e, ← ht2, q3, hv], e⟩
      have HCR : Hid (crx ys (k + 1) = crx ys k + if f = t2 then 0 else 1) := by show _ = _; simp only [crx]; rw [hf, ht2]
      have hcb := crx_bd ys k
      rw [hv] at a1 d1 hvb
      rw [hf] at a2 d2
      rw [ht2] at a3 d3
      clear hc1 hc2 q0 q1 q2 q3 hf ht2 hb1 hb2 hv
      have hOr := hO_12.ext hx
      rcases Nat.eq_zero_or_pos k with hk0 | hk0
      · subst hk0
        simp only [Nat.zero_mul, Nat.add_zero] at a0 a1 a2 a3 d0 d1 d2 d3
        go_wp2
        go_quiet (fail)
        go_wp2_with (first | (go_at_call 23; (with_reducible refine (implHandAt_ret _ _ _ os b _ (hOr.ext (by with_reducible (repeat (first | exact Ext.refl _ | apply Ext.drewN | apply Ext.drew | apply Ext.alloc | (refine Ext.set ?_ (by first | (simp; done) | (simp; omega) | omega) _) | (refine Ext.trans ?_ (by assumption))))))).mono ?_); rw [HF.out.1, HF.out.2]; rintro e wa ⟨rfl, hxa⟩; have hza := hxa.size; (try simp at hza); have pa0 : wa.cell? ⟨wr.heap.size, 0, none⟩ = some (.int .i64 b) := hxa.cell (by simp) (by simp); have pa1 : wa.cell? ⟨wr.heap.size, 1, none⟩ = some (.int .i64 v) := hxa.cell (by simp) (by simp); have pa2 : wa.cell? ⟨wr.heap.size, 2, none⟩ = some (.int .i64 f) := hxa.cell (by simp) (by simp); have pa3 : wa.cell? ⟨wr.heap.size, 3, none⟩ = some (.int .i64 t2) := hxa.cell (by simp) (by simp)) | (go_at_call 23; (with_reducible refine (implHandAt_ret _ _ _ os ((b : Int) + v) _ (hOr.ext (by with_reducible (repeat (first | exact Ext.refl _ | apply Ext.drewN | apply Ext.drew | apply Ext.alloc | (refine Ext.set ?_ (by first | (simp; done) | (simp; omega) | omega) _) | (refine Ext.trans ?_ (by assumption))))))).mono ?_); rw [HT.out.1, HT.out.2]; rintro e wb ⟨rfl, hxb⟩; have pb0 : wb.cell? ⟨wr.heap.size, 0, none⟩ = some (.int .i64 b) := hxb.cell (by omega) pa0; have pb1 : wb.cell? ⟨wr.heap.size, 1, none⟩ = some (.int .i64 v) := hxb.cell (by omega) pa1; have pb2 : wb.cell? ⟨wr.heap.size, 2, none⟩ = some (.int .i64 f) := hxb.cell (by omega) pa2; have pb3 : wb.cell? ⟨wr.heap.size, 3, none⟩ = some (.int .i64 t2) := hxb.cell (by omega) pa3))
        all_goals
          go_roundw
          case rel => first | exact ⟨⟨0 + 1, by omega, (by first | rfl | go_num), by rw [HCR.out]; first | (rename_i hq; rw [if_neg (by simpa using hq)]; done) | (rename_i hq; rw [if_pos (by simpa using hq), Int.add_zero]; done), (hx.trans (by with_reducible (repeat (first | exact Ext.refl _ | apply Ext.drewN | apply Ext.drew | apply Ext.alloc | (refine Ext.set ?_ (by first | (simp; done) | (simp; omega) | omega) _) | (refine Ext.trans ?_ (by assumption))))))⟩⟩ | ((repeat apply Exists.intro); refine ⟨?_, rfl⟩; exact ⟨⟨0 + 1, by omega, (by first | rfl | go_num), by rw [HCR.out]; first | (rename_i hq; rw [if_neg (by simpa using hq)]; done) | (rename_i hq; rw [if_pos (by simpa using hq), Int.add_zero]; done), (hx.trans (by with_reducible (repeat (first | exact Ext.refl _ | apply Ext.drewN | apply Ext.drew | apply Ext.alloc | (refine Ext.set ?_ (by first | (simp; done) | (simp; omega) | omega) _) | (refine Ext.trans ?_ (by assumption))))))⟩⟩)
          case measure => simp [intOf]; omega
      · obtain ⟨j, rfl⟩ : ∃ j, k = j + 1 := ⟨k - 1, by omega⟩
        obtain ⟨b', hb', e0⟩ := HPREV.out j rfl
        have hnle : ¬ (b : Int) ≤ b' := by omega
        have hjN : (j : Int) < N := by omega
        have hj0 : (0 : Int) < (j : Int) + 1 := by omega
        have hw1 : IntKind.i64.wrap ((j : Int) + 1 - 1) = j := by rw [show (j : Int) + 1 - 1 = j by omega]; exact IntWalk.i64_in _ (by omega)
        have hw2 : IntKind.i64.wrap (j : Int) = j := IntWalk.i64_in _ (by omega)
        go_wp2
        go_quiet (fail)
        clear hw1 hw2
        go_wp2_with (first | (go_at_call 23; (with_reducible refine (implHandAt_ret _ _ _ os b _ (hOr.ext (by with_reducible (repeat (first | exact Ext.refl _ | apply Ext.drewN | apply Ext.drew | apply Ext.alloc | (refine Ext.set ?_ (by first | (simp; done) | (simp; omega) | omega) _) | (refine Ext.trans ?_ (by assumption))))))).mono ?_); rw [HF.out.1, HF.out.2]; rintro e wa ⟨rfl, hxa⟩; have hza := hxa.size; (try simp at hza); have pa0 : wa.cell? ⟨wr.heap.size, 0, none⟩ = some (.int .i64 b) := hxa.cell (by simp) (by simp); have pa1 : wa.cell? ⟨wr.heap.size, 1, none⟩ = some (.int .i64 v) := hxa.cell (by simp) (by simp); have pa2 : wa.cell? ⟨wr.heap.size, 2, none⟩ = some (.int .i64 f) := hxa.cell (by simp) (by simp); have pa3 : wa.cell? ⟨wr.heap.size, 3, none⟩ = some (.int .i64 t2) := hxa.cell (by simp) (by simp)) | (go_at_call 23; (with_reducible refine (implHandAt_ret _ _ _ os ((b : Int) + v) _ (hOr.ext (by with_reducible (repeat (first | exact Ext.refl _ | apply Ext.drewN | apply Ext.drew | apply Ext.alloc | (refine Ext.set ?_ (by first | (simp; done) | (simp; omega) | omega) _) | (refine Ext.trans ?_ (by assumption))))))).mono ?_); rw [HT.out.1, HT.out.2]; rintro e wb ⟨rfl, hxb⟩; have pb0 : wb.cell? ⟨wr.heap.size, 0, none⟩ = some (.int .i64 b) := hxb.cell (by omega) pa0; have pb1 : wb.cell? ⟨wr.heap.size, 1, none⟩ = some (.int .i64 v) := hxb.cell (by omega) pa1; have pb2 : wb.cell? ⟨wr.heap.size, 2, none⟩ = some (.int .i64 f) := hxb.cell (by omega) pa2; have pb3 : wb.cell? ⟨wr.heap.size, 3, none⟩ = some (.int .i64 t2) := hxb.cell (by omega) pa3))
        all_goals
          go_roundw
          case rel => first | exact ⟨⟨j + 1 + 1, by omega, (by first | rfl | go_num), by rw [HCR.out]; first | (rename_i hq; rw [if_neg (by simpa using hq)]; done) | (rename_i hq; rw [if_pos (by simpa using hq), Int.add_zero]; done), (hx.trans (by with_reducible (repeat (first | exact Ext.refl _ | apply Ext.drewN | apply Ext.drew | apply Ext.alloc | (refine Ext.set ?_ (by first | (simp; done) | (simp; omega) | omega) _) | (refine Ext.trans ?_ (by assumption))))))⟩⟩ | ((repeat apply Exists.intro); refine ⟨?_, rfl⟩; exact ⟨⟨j + 1 + 1, by omega, (by first | rfl | go_num), by rw [HCR.out]; first | (rename_i hq; rw [if_neg (by simpa using hq)]; done) | (rename_i hq; rw [if_pos (by simpa using hq), Int.add_zero]; done), (hx.trans (by with_reducible (repeat (first | exact Ext.refl _ | apply Ext.drewN | apply Ext.drew | apply Ext.alloc | (refine Ext.set ?_ (by first | (simp; done) | (simp; omega) | omega) _) | (refine Ext.trans ?_ (by assumption))))))⟩⟩)
          case measure => simp [intOf]; omega
    · obtain rfl : k = N := by omega
      go_wp2
      go_ret
      exact ⟨by simp, Ext.below (hE_12.trans hx)⟩
end Go.Proofs.Ytdmjmnkcnohhlaa.fnHands
