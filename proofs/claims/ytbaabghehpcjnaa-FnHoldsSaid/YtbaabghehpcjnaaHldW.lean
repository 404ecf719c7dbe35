/- The walk of laws.FnHolds: at each tick all props are held or fly; holds of one hand do not overlap. No condition. -/
import Derived.Test.YtbaabghehpcjnaaMot5
import Derived.Test.YtbaabghehpcjnaaHlw
import Derived.Test.YtbaabghehpcjnaaAir
import Derived.Test.YtbaabghehpcjnaaInh
namespace Go.Proofs.Ytbaabghehpcjnaa
set_option linter.unusedVariables false
set_option linter.unusedSimpArgs false
open Go.RowKit Go.Joins

theorem PropsOf_yes (A : Option Addr) (n c : Nat) (xs : List Int) (w : World) (hI : Ints w A n xs) (hv : Hid (vpat xs = true)) :
    Calls Try.prog 7 #[.slice A n c] w fun e w' => e = .returned (.tuple #[.int .i64 (prp xs), .int .i64 0]) ∧ Ext w w' := by
  go_enter Try.func7, Try.ntmps7
  go_wp2_with fail
  (with_reducible refine (l02Ok_is A n c xs true hv.out _ hI).mono ?_)
  rintro e w1 ⟨rfl, nq, rfl⟩
  go_wp2_with fail
  (with_reducible refine (l02Props_any A n c xs _ (hI.ext (show Ext w (w.drewN nq) from (by with_reducible (repeat (first | exact Ext.refl _ | apply Ext.drewN | apply Ext.drew | apply Ext.alloc | (refine Ext.set ?_ (by first | (simp; done) | (simp; omega) | omega) _) | (refine Ext.trans ?_ (by assumption))))))) hv.out).mono ?_)
  rintro e w2 ⟨rfl, rfl⟩
  go_wp2
  exact bodyPost_ret (v := .tuple #[.int .i64 (prp xs), .int .i64 0]) (by simp [results, Try.results7, go_sem, *]) rfl ⟨rfl, (by with_reducible (repeat (first | exact Ext.refl _ | apply Ext.drewN | apply Ext.drew | apply Ext.alloc | (refine Ext.set ?_ (by first | (simp; done) | (simp; omega) | omega) _) | (refine Ext.trans ?_ (by assumption)))))⟩
theorem inHands_is (A : Option Addr) (n c : Nat) (xs : List Int) (b d t v : Int) (w : World) (hI : Ints w A n xs) (hr : Hid (tcd (vpat xs) (vtim b d && btw t 0 3000) (fits xs b d) = 0)) (hv : Hid (hin xs b d t = v)) :
    Calls Try.prog 9 #[.slice A n c, .agg #[.int .i64 b, .int .i64 d], .int .i64 t] w fun e w' => e = .returned (.tuple #[.int .i64 v, .int .i64 0]) ∧ Ext w w' := by
  rw [← hv.out]; exact implInHands_yes A n c xs b d t w hI hr.out
theorem inAir_is (A : Option Addr) (n c : Nat) (xs : List Int) (b d t v : Int) (w : World) (hI : Ints w A n xs) (hr : Hid (tcd (vpat xs) (vtim b d && btw t 0 3000) (fits xs b d) = 0)) (hv : Hid (prp xs - hin xs b d t = v)) :
    Calls Try.prog 10 #[.slice A n c, .agg #[.int .i64 b, .int .i64 d], .int .i64 t] w fun e w' => e = .returned (.tuple #[.int .i64 v, .int .i64 0]) ∧ Ext w w' := by
  rw [← hv.out]; exact implInAir_yes A n c xs b d t w hI hr.out
theorem maxDwell_is (A : Option Addr) (n c : Nat) (xs : List Int) (b v : Int) (w : World) (hI : Ints w A n xs) (hr : Hid (vpat xs = true)) (hb : Hid (btw b 2 30 = true)) (hv : Hid (mst b xs n = v)) :
    Calls Try.prog 11 #[.slice A n c, .int .i64 b] w fun e w' => e = .returned (.tuple #[.int .i64 v, .int .i64 0]) ∧ Ext w w' := by
  rw [← hv.out]; exact implMaxDwell_yes A n c xs b w hI hr.out hb.out
theorem share_is (A : Option Addr) (n c : Nat) (xs : List Int) (b d v : Int) (w : World) (hI : Ints w A n xs) (hr : Hid (tcd (vpat xs) (vtim b d && true) (fits xs b d) = 0)) (hv : Hid (1000 * acc fThrown xs n * d / (2 * b * n) = v)) :
    Calls Try.prog 16 #[.slice A n c, .agg #[.int .i64 b, .int .i64 d]] w fun e w' => e = .returned (.tuple #[.int .i64 v, .int .i64 0]) ∧ Ext w w' := by
  rw [← hv.out]; exact implHeldShare_yes A n c xs b d w hI hr.out
theorem handOf_is (z h : Int) (w : World) (hz : Hid (z % 2 = h)) :
    Calls Try.prog 14 #[.int .i64 z] w fun e w' => e = .returned (.int .i64 h) ∧ w = w' := by
  rw [← hz.out]; exact implHandOf_any z w
theorem holdsOf_is (A : Option Addr) (n c : Nat) (xs : List Int) (b d : Int) (w : World) (hI : Ints w A n xs) (hr : Hid (tcd (vpat xs) (vtim b d && btw ((30 : Nat) : Int) 0 200) (fits xs b d) = 0)) :
    Calls Try.prog 13 #[.slice A n c, .agg #[.int .i64 b, .int .i64 d], .int .i64 30] w (RetRow w 39 4 (hcn xs 30) (hrows xs b d 30) 0) :=
  implHoldsOf_yes A n c xs b d 30 w hI (by omega) hr.out
theorem times_is (A : Option Addr) (n c : Nat) (xs : List Int) (b d : Int) (w : World) (hI : Ints w A n xs) (hr : Hid (tcd (vpat xs) (vtim b d && btw 0 0 0) (fits xs b d) = 0)) :
    Calls Try.prog 15 #[.slice A n c, .agg #[.int .i64 b, .int .i64 d]] w (RetRow w 2 1 n (ftms xs b d n) 0) := by
  have h := implFlightTimes_ret A n c xs b d w hI
  rw [hr.out, show ftn xs b d n = ftms xs b d n from if_pos hr.out, ftms_len] at h
  exact h
namespace fnHolds
set_option maxHeartbeats 8000000 in
set_option maxRecDepth 100000 in
theorem walk (A : Option Addr) (n c : Nat) (xs : List Int) (B : Option Addr) (m d : Nat) (ys : List Int) (w : World) (hI : Byts w A n xs) (hJ : Byts w B m ys) :
    Calls Try.prog 3 #[.slice A n c, .slice B m d] w fun e w' => e = .returned (.bool true) ∧ Below w.heap.size w w' := by
  have hsn := hI.small
  have hsm := hJ.small
  cases hl : (decide (3000 < n) || decide (3000 < m))
  rotate_left
  · have HL := Lib.hid hl
    clear hl
    go_enter Try.func3, Try.ntmps3
    go_wp2_with fail
    (with_reducible refine (a2Long_any _ _ _ _ _ _ _ hsn hsm).mono ?_)
    rw [HL.out]
    rintro e w' ⟨rfl, rfl⟩
    go_wp2
    go_ret
    exact ⟨rfl, Ext.below (Ext.refl _)⟩
  have HL := Lib.hid hl
  clear hl
  go_enter Try.func3, Try.ntmps3
  go_wp2_with fail
  (with_reducible refine (a2Long_any _ _ _ _ _ _ _ hsn hsm).mono ?_)
  rw [HL.out]
  rintro e w' ⟨rfl, rfl⟩
  go_wp2_with fail
  (with_reducible refine (A2Motion_any A n c xs _ (hI.ext (by with_reducible (repeat (first | exact Ext.refl _ | apply Ext.drewN | apply Ext.drew | apply Ext.alloc | (refine Ext.set ?_ (by first | (simp; done) | (simp; omega) | omega) _) | (refine Ext.trans ?_ (by assumption))))))).mono ?_)
  rintro e w1 ⟨P, M, cP, ps, b, dd, wd, rfl, hP1, hv, htm, hf, hx1⟩
  have hE1 : Ext w w1 := hx1
  obtain ⟨hb, hd⟩ := vtim_iff.1 htm
  have HV := Lib.hid hv
  have HB : Hid (btw b 2 30 = true) := btw_iff.2 (by omega)
  have hlen := hP1.len
  have hMb := (thr_iff.1 (vpat_thr hv)).2
  rw [hlen] at hMb
  have HT : ∀ t : Int, 0 ≤ t ∧ t ≤ 3000 → Hid (tcd (vpat ps) (vtim b dd && btw t 0 3000) (fits ps b dd) = 0) := fun t ht => by show _ = _; rw [hv, htm, hf, btw_iff.2 (by omega)]; rfl
  have HTs : Hid (tcd (vpat ps) (vtim b dd && true) (fits ps b dd) = 0) := by show _ = _; rw [hv, htm, hf]; rfl
  have HTh : Hid (tcd (vpat ps) (vtim b dd && btw ((30 : Nat) : Int) 0 200) (fits ps b dd) = 0) := by show _ = _; rw [hv, htm, hf]; rfl
  have HTf : Hid (tcd (vpat ps) (vtim b dd && btw 0 0 0) (fits ps b dd) = 0) := by show _ = _; rw [hv, htm, hf]; rfl
  have hms := mst_more hf
  have hml := mst_le b ps
  rw [hlen] at hms hml
  obtain ⟨mo, hmo⟩ : ∃ mo, mst b ps M = mo := ⟨_, rfl⟩
  rw [hmo] at hms hml
  have HMO := Lib.hid hmo
  have HF1 : Hid ((vpat ps && (vtim b dd && fits ps b dd)) = true) := by show _ = _; rw [hv, htm, hf]; rfl
  have HF2 : Hid ((vpat ps && (vtim b (mo + 1) && fits ps b (mo + 1))) = false) := by show _ = _; rw [hms.2, Bool.and_false, Bool.and_false]
  have HFF := Lib.hid hf
  have hprb := prp_bd hv
  obtain ⟨pr, hpr⟩ : ∃ pr, prp ps = pr := ⟨_, rfl⟩
  rw [hpr] at hprb
  have HPR := Lib.hid hpr
  clear hmo hpr hf htm hv
  have hmo1 := hms.1
  clear hms
  have hT1 := heap_alloc_new w1 (.cells #[.int .i64 b, .int .i64 dd] 26)
  go_wp2_with fail
  (with_reducible refine (PropsOf_yes P M cP ps _ (hP1.ext (by with_reducible (repeat (first | exact Ext.refl _ | apply Ext.drewN | apply Ext.drew | apply Ext.alloc | (refine Ext.set ?_ (by first | (simp; done) | (simp; omega) | omega) _) | (refine Ext.trans ?_ (by assumption)))))) HV).mono ?_)
  rw [HPR.out]
  rintro e w2 ⟨rfl, hx2⟩
  have hT2 := block_ext hT1 hx2
  have hE2 : Ext w w2 := Ext.trans hE1 (Ext.trans (by with_reducible (repeat (first | exact Ext.refl _ | apply Ext.drewN | apply Ext.drew | apply Ext.alloc | (refine Ext.set ?_ (by first | (simp; done) | (simp; omega) | omega) _) | (refine Ext.trans ?_ (by assumption))))) hx2)
  have hP2 : Ints w2 P M ps := (hP1.ext (show Ext w1 (w1.alloc _) from (by with_reducible (repeat (first | exact Ext.refl _ | apply Ext.drewN | apply Ext.drew | apply Ext.alloc | (refine Ext.set ?_ (by first | (simp; done) | (simp; omega) | omega) _) | (refine Ext.trans ?_ (by assumption))))))).ext hx2
  go_wp2_with fail
  (with_reducible refine (a2At_is B m d ys 0 0 256 _ (hJ.ext hE2) rfl (by omega) (by omega) (by omega)).mono ?_)
  rintro e w' ⟨t, rfl, ht0, ht1, ht2, rfl⟩
  obtain ⟨ha, hha⟩ : ∃ ha, hin ps b dd t = ha := ⟨_, rfl⟩
  have hhb := hin_le (xs := ps) hb hd (show 0 ≤ t ∧ t ≤ 3000 by omega)
  rw [hha] at hhb
  have HHA := Lib.hid hha
  have HAI : Hid (prp ps - hin ps b dd t = pr - ha) := by show _ = _; rw [HPR.out, HHA.out]
  clear hha ht2
  obtain ⟨⟨q0, q1⟩, f0, f1⟩ := pair_at hT2
  go_wp2_with fail
  (with_reducible refine (inHands_is P M cP ps b dd t ha _ hP2 (HT t (by omega)) HHA).mono ?_)
  clear q0 q1 f0 f1
  rintro e w3 ⟨rfl, hx3⟩
  have hT3 := block_ext hT2 hx3
  have hE3 : Ext w w3 := Ext.trans hE2 hx3
  have hP3 : Ints w3 P M ps := hP2.ext hx3
  obtain ⟨⟨q0, q1⟩, f0, f1⟩ := pair_at hT3
  go_wp2_with fail
  (with_reducible refine (inAir_is P M cP ps b dd t (pr - ha) _ hP3 (HT t (by omega)) HAI).mono ?_)
  clear q0 q1 f0 f1 hT2 hE2 hP2
  rintro e w4 ⟨rfl, hx4⟩
  have hT4 := block_ext hT3 hx4
  have hE4 : Ext w w4 := Ext.trans hE3 hx4
  have hP4 : Ints w4 P M ps := hP3.ext hx4
  obtain ⟨⟨q0, q1⟩, f0, f1⟩ := pair_at hT4
  go_wp2_with fail
  (with_reducible refine (maxDwell_is P M cP ps b mo _ hP4 HV HB HMO).mono ?_)
  clear q0 q1 f0 f1 hT3 hE3 hP3 hx2 hx3 hx4
  rintro e w5 ⟨rfl, hx5⟩
  have hT5 := block_ext hT4 hx5
  have hE5 : Ext w w5 := Ext.trans hE4 hx5
  have hP5 : Ints w5 P M ps := hP4.ext hx5
  obtain ⟨⟨q0, q1⟩, f0, f1⟩ := pair_at hT5
  have hsum : ha + (pr - ha) = pr := by omega
  have g1 : ¬ ha < 0 := by omega
  have g2 : ¬ 2 < ha := by omega
  have g3 : ¬ mo < dd := by omega
  go_wp2_with fail
  (with_reducible refine (implFitsTiming_is P M cP ps b dd _ hP5 true HF1.out).mono ?_)
  clear q0 q1 f0 f1 hT4 hE4 hP4 hx5
  rintro e w6 ⟨rfl, hx6⟩
  have hT6 := block_ext hT5 hx6
  have hE6 : Ext w w6 := Ext.trans hE5 hx6
  have hP6 : Ints w6 P M ps := hP5.ext hx6
  obtain ⟨⟨q0, q1⟩, f0, f1⟩ := pair_at hT6
  go_wp2_with fail
  (with_reducible refine (implFitsTiming_is P M cP ps b (mo + 1) _ hP6 false HF2.out).mono ?_)
  clear q0 q1 f0 f1 hT5 hE5 hP5 hx6
  rintro e w7 ⟨rfl, hx7⟩
  have hT7 := block_ext hT6 hx7
  have hE7 : Ext w w7 := Ext.trans hE6 hx7
  have hP7 : Ints w7 P M ps := hP6.ext hx7
  obtain ⟨⟨q0, q1⟩, f0, f1⟩ := pair_at hT7
  clear hsum g1 g2 g3
  go_wp2_with fail
  (with_reducible refine (holdsOf_is P M cP ps b dd _ hP7 HTh).mono ?_)
  clear q0 q1 f0 f1 hT6 hE6 hP6 hx7
  rintro e w8 ⟨A8, c8, rfl, hrow8, hx8⟩
  have hT8 := block_ext hT7 hx8
  have hE8 : Ext w w8 := Ext.trans hE7 hx8
  have hP8 : Ints w8 P M ps := hP7.ext hx8
  clear hT7 hE7 hP7 hx8
  obtain ⟨N, hN⟩ : ∃ N, hcn ps 30 = N := ⟨_, rfl⟩
  have hN30 : N ≤ 30 := by rw [← hN]; exact hcn_le ps 30
  have HN := Lib.hid hN
  rw [hN] at hrow8 ⊢
  clear hN
  go_wp2_with fail
  go_loopw [20] (fun i wr => ∃ (k : Nat) (l0 l1 : Int), k ≤ N ∧ i = .int .i64 k ∧ Hid (LastOf ps b dd 30 k 0 l0 ∧ LastOf ps b dd 30 k 1 l1) ∧ wr.heap[w8.heap.size]? = some (.cells #[.int .i64 l0, .int .i64 l1] 2) ∧ Ext w8 wr) (fun i _ => N - (intOf i).toNat)
  case atStart => exact ⟨0, -1000, -1000, by omega, rfl, ⟨.inl rfl, .inl rfl⟩, heap_alloc_new _ _, (by with_reducible (repeat (first | exact Ext.refl _ | apply Ext.drewN | apply Ext.drew | apply Ext.alloc | (refine Ext.set ?_ (by first | (simp; done) | (simp; omega) | omega) _) | (refine Ext.trans ?_ (by assumption)))))⟩
  case round =>
    obtain ⟨k, l0, l1, hk, rfl, hlast, hL, hxr⟩ := hrel
    by_cases hkN : k < N
    · have hki : (k : Int) < N := by omega
      obtain ⟨gr, hgr⟩ := hrow8.form (by omega)
      subst hgr
      have hrw := hrow8.ext hxr
      obtain ⟨⟨⟨zb0, zb1⟩, e0, e2, e3⟩, _⟩ := hrows_at ps b dd 30 k (by rw [HN.out]; exact hkN)
      have k0 := (hrw.cellAt (p := 4 * k) (by omega)).1
      have k1 := (hrw.cellAt (p := 4 * k + 1) (by omega)).1
      have k2 := (hrw.cellAt (p := 4 * k + 2) (by omega)).1
      have k3 := (hrw.cellAt (p := 4 * k + 3) (by omega)).1
      have hkc : k < hcn ps 30 := by rw [HN.out]; exact hkN
      have HL0 : Hid (hbt ps b dd 30 k % 2 = 0 → l0 ≤ hbt ps b dd 30 k * b - dd) := fun e => hlast.out.1.le hkc e hb hd
      have HL1 : Hid (hbt ps b dd 30 k % 2 = 1 → l1 ≤ hbt ps b dd 30 k * b - dd) := fun e => hlast.out.2.le hkc e hb hd
      have HN0 : Hid (hbt ps b dd 30 k % 2 = 0 → LastOf ps b dd 30 (k + 1) 0 (hbt ps b dd 30 k * b) ∧ LastOf ps b dd 30 (k + 1) 1 l1) := fun e => ⟨LastOf.new hkc e, hlast.out.2.step⟩
      have HN1 : Hid (hbt ps b dd 30 k % 2 = 1 → LastOf ps b dd 30 (k + 1) 0 l0 ∧ LastOf ps b dd 30 (k + 1) 1 (hbt ps b dd 30 k * b)) := fun e => ⟨hlast.out.1.step, LastOf.new hkc e⟩
      have lb0 := hlast.out.1.bd (by omega) hb
      have lb1 := hlast.out.2.bd (by omega) hb
      rw [e0] at k0
      rw [show (hrows ps b dd 30)[4 * k + 1]?.getD 0 = hbt ps b dd 30 k from rfl] at k1
      rw [e2] at k2
      rw [e3] at k3
      clear hrw e0 e2 e3 hkc hlast
      generalize hbt ps b dd 30 k = z at *
      have hzb := mul_bd (a := z) (b := b) (A := 30) (B := 30) (by omega) (by omega)
      obtain ⟨zb, hzbe⟩ : ∃ zb, z * b = zb := ⟨_, rfl⟩
      rw [hzbe] at HL0 HL1 HN0 HN1 k2 k3 hzb
      have hzw : IntKind.i64.wrap (z * b) = zb := by rw [hzbe]; exact IntWalk.i64_in _ (by omega)
      obtain ⟨fr, hfr⟩ : ∃ fr, zb - dd = fr := ⟨_, rfl⟩
      rw [hfr] at HL0 HL1 k2
      have hfb : zb - fr = dd := by omega
      have hfw : IntKind.i64.wrap (zb - fr) = dd := by rw [hfb]; exact IntWalk.i64_in _ (by omega)
      have hfrb : -1000 ≤ fr ∧ fr ≤ 1000 := by omega
      clear hzbe hfr
      have hcs : z % 2 = 0 ∨ z % 2 = 1 := by omega
      have hLr : w8.heap.size < wr.heap.size := (Array.getElem?_eq_some_iff.1 hL).1
      have hTr := block_ext hT8 hxr
      rw [Nat.mul_comm 4 k] at k0 k1 k2 k3
      rcases hcs with hz0 | hz1
      · rw [hz0] at k0
        have HZ := Lib.hid hz0
        have hle := HL0.out hz0
        have HNX := Lib.hid (HN0.out hz0)
        clear hz0 HL0 HL1 HN0 HN1
        go_wp2_with fail
        have hLn := block_ext hL (show Ext wr (wr.alloc (.cells #[.int .i64 0, .int .i64 z, .int .i64 fr, .int .i64 zb] 39)) from (by with_reducible (repeat (first | exact Ext.refl _ | apply Ext.drewN | apply Ext.drew | apply Ext.alloc | (refine Ext.set ?_ (by first | (simp; done) | (simp; omega) | omega) _) | (refine Ext.trans ?_ (by assumption))))))
        have hTn := block_ext hTr (show Ext wr (wr.alloc (.cells #[.int .i64 0, .int .i64 z, .int .i64 fr, .int .i64 zb] 39)) from (by with_reducible (repeat (first | exact Ext.refl _ | apply Ext.drewN | apply Ext.drew | apply Ext.alloc | (refine Ext.set ?_ (by first | (simp; done) | (simp; omega) | omega) _) | (refine Ext.trans ?_ (by assumption))))))
        have hxn := hxr.alloc (.cells #[.int .i64 0, .int .i64 z, .int .i64 fr, .int .i64 zb] 39)
        obtain ⟨⟨q0, q1⟩, f0, f1⟩ := pair_at hTn
        obtain ⟨⟨l0c, l1c⟩, l0f, l1f⟩ := pair_at hLn
        have hlb : decide (fr < l0) = false := decide_eq_false (by omega)
        go_quiet ((go_at_call 14; first | with_reducible exact quiet_l (handOf_is z 0 _ HZ) | with_reducible exact quiet_la (handOf_is z 0 _ HZ)))
        go_wp2
        go_roundw
        case rel => exact ⟨k + 1, zb, l1, by omega, by go_num, HNX.out, pair_set0 (block_ext hLn (by with_reducible (repeat (first | exact Ext.refl _ | apply Ext.drewN | apply Ext.drew | apply Ext.alloc | (refine Ext.set ?_ (by first | (simp; done) | (simp; omega) | omega) _) | (refine Ext.trans ?_ (by assumption)))))), Ext.set (Ext.trans hxn (by with_reducible (repeat (first | exact Ext.refl _ | apply Ext.drewN | apply Ext.drew | apply Ext.alloc | (refine Ext.set ?_ (by first | (simp; done) | (simp; omega) | omega) _) | (refine Ext.trans ?_ (by assumption)))))) (Nat.le_refl _) _⟩
        case measure => simp [intOf]; omega
      · rw [hz1] at k0
        have HZ := Lib.hid hz1
        have hle := HL1.out hz1
        have HNX := Lib.hid (HN1.out hz1)
        clear hz1 HL0 HL1 HN0 HN1
        go_wp2_with fail
        have hLn := block_ext hL (show Ext wr (wr.alloc (.cells #[.int .i64 1, .int .i64 z, .int .i64 fr, .int .i64 zb] 39)) from (by with_reducible (repeat (first | exact Ext.refl _ | apply Ext.drewN | apply Ext.drew | apply Ext.alloc | (refine Ext.set ?_ (by first | (simp; done) | (simp; omega) | omega) _) | (refine Ext.trans ?_ (by assumption))))))
        have hTn := block_ext hTr (show Ext wr (wr.alloc (.cells #[.int .i64 1, .int .i64 z, .int .i64 fr, .int .i64 zb] 39)) from (by with_reducible (repeat (first | exact Ext.refl _ | apply Ext.drewN | apply Ext.drew | apply Ext.alloc | (refine Ext.set ?_ (by first | (simp; done) | (simp; omega) | omega) _) | (refine Ext.trans ?_ (by assumption))))))
        have hxn := hxr.alloc (.cells #[.int .i64 1, .int .i64 z, .int .i64 fr, .int .i64 zb] 39)
        obtain ⟨⟨q0, q1⟩, f0, f1⟩ := pair_at hTn
        obtain ⟨⟨l0c, l1c⟩, l0f, l1f⟩ := pair_at hLn
        have hlb : decide (fr < l1) = false := decide_eq_false (by omega)
        go_quiet ((go_at_call 14; first | with_reducible exact quiet_l (handOf_is z 1 _ HZ) | with_reducible exact quiet_la (handOf_is z 1 _ HZ)))
        go_wp2
        go_roundw
        case rel => exact ⟨k + 1, l0, zb, by omega, by go_num, HNX.out, pair_set1 (block_ext hLn (by with_reducible (repeat (first | exact Ext.refl _ | apply Ext.drewN | apply Ext.drew | apply Ext.alloc | (refine Ext.set ?_ (by first | (simp; done) | (simp; omega) | omega) _) | (refine Ext.trans ?_ (by assumption)))))), Ext.set (Ext.trans hxn (by with_reducible (repeat (first | exact Ext.refl _ | apply Ext.drewN | apply Ext.drew | apply Ext.alloc | (refine Ext.set ?_ (by first | (simp; done) | (simp; omega) | omega) _) | (refine Ext.trans ?_ (by assumption)))))) (Nat.le_refl _) _⟩
        case measure => simp [intOf]; omega
    · obtain rfl : k = N := by omega
      have hTr := block_ext hT8 hxr
      have hPr := hP8.ext hxr
      have hEr : Ext w wr := Ext.trans hE8 hxr
      clear hrow8 hlast hL hxr hT8 hE8 hP8
      obtain ⟨⟨q0, q1⟩, f0, f1⟩ := pair_at hTr
      go_wp2_with fail
      (with_reducible refine (times_is P M cP ps b dd _ hPr HTf).mono ?_)
      clear q0 q1 f0 f1
      rintro e w9 ⟨A9, c9, rfl, hrow9, hx9⟩
      have hT9 := block_ext hTr hx9
      have hP9 := hPr.ext hx9
      have hE9 : Ext w w9 := Ext.trans hEr hx9
      clear hTr hPr hEr hx9
      go_wp2_with fail
      go_loopw [24] (fun i wy => ∃ j : Nat, j ≤ M ∧ i = .int .i64 j ∧ Ext w9 wy) (fun i _ => M - (intOf i).toNat)
      case atStart => exact ⟨0, by omega, rfl, (by with_reducible (repeat (first | exact Ext.refl _ | apply Ext.drewN | apply Ext.drew | apply Ext.alloc | (refine Ext.set ?_ (by first | (simp; done) | (simp; omega) | omega) _) | (refine Ext.trans ?_ (by assumption)))))⟩
      case round =>
        obtain ⟨j, hj, rfl, hxy⟩ := hrel
        have hTy := block_ext hT9 hxy
        have hPy := hP9.ext hxy
        by_cases hjM : j < M
        · have hji : (j : Int) < M := by omega
          obtain ⟨g9, hg9⟩ := hrow9.form (by omega)
          subst hg9
          have c9c := ((hrow9.ext hxy).cellAt (p := j) (by omega)).1
          rw [ftms_at ps b dd hjM] at c9c
          obtain ⟨pb, off, hA, hpb, hcell⟩ := hPy.at_ (by omega)
          subst hA
          have cP0 := hcell j hjM
          have hx0 := (thr_iff.1 (vpat_thr HV.out)).1 j (by omega)
          have hlw := ftm_law (b := b) (d := dd) (i := j) (by omega) HFF.out
          clear hcell
          obtain ⟨⟨q0, q1⟩, f0, f1⟩ := pair_at hTy
          generalize ps[j]?.getD 0 = x at *
          by_cases hx : 0 < x
          · have hft : ftm b dd x = x * b - dd := if_pos hx
            have h1 := hlw hx
            have hpm := mul_bd (a := x) (b := b) (A := 15) (B := 30) (by omega) (by omega)
            obtain ⟨xb, hxb⟩ : ∃ xb, x * b = xb := ⟨_, rfl⟩
            rw [hxb] at hft h1 hpm
            have hxw : IntKind.i64.wrap (x * b) = xb := by rw [hxb]; exact IntWalk.i64_in _ (by omega)
            obtain ⟨fl, hfl⟩ : ∃ fl, xb - dd = fl := ⟨_, rfl⟩
            have hflw : IntKind.i64.wrap (xb - dd) = fl := by rw [hfl]; exact IntWalk.i64_in _ (by omega)
            rw [hft, hfl] at c9c
            rw [hfl] at h1
            have n0 : (x == 0) = false := by simp; omega
            have n1 : decide (0 < x) = true := decide_eq_true hx
            have n2 : decide (fl < 1) = false := decide_eq_false (by omega)
            have n3 : decide (x > 0) = true := decide_eq_true hx
            clear hxb hft hfl hlw
            go_wp2_with fail
            go_quiet (fail)
            go_wp2
            go_roundw
            case rel => exact ⟨j + 1, by omega, by go_num, Ext.trans hxy (by with_reducible (repeat (first | exact Ext.refl _ | apply Ext.drewN | apply Ext.drew | apply Ext.alloc | (refine Ext.set ?_ (by first | (simp; done) | (simp; omega) | omega) _) | (refine Ext.trans ?_ (by assumption)))))⟩
            case measure => simp [intOf]; omega
          · obtain rfl : x = 0 := by omega
            have hft : ftm b dd 0 = 0 := if_neg (by omega)
            rw [hft] at c9c
            clear hft hlw
            go_wp2_with fail
            go_quiet (fail)
            go_wp2
            go_roundw
            case rel => exact ⟨j + 1, by omega, by go_num, Ext.trans hxy (by with_reducible (repeat (first | exact Ext.refl _ | apply Ext.drewN | apply Ext.drew | apply Ext.alloc | (refine Ext.set ?_ (by first | (simp; done) | (simp; omega) | omega) _) | (refine Ext.trans ?_ (by assumption)))))⟩
            case measure => simp [intOf]; omega
        · obtain rfl : j = M := by omega
          have hEy : Ext w wr := Ext.trans hE9 hxy
          clear hT9 hP9 hE9 hrow9 hxy
          obtain ⟨⟨q0, q1⟩, f0, f1⟩ := pair_at hTy
          obtain ⟨sh, hsh⟩ : ∃ sh, 1000 * acc fThrown ps j * dd / (2 * b * j) = sh := ⟨_, rfl⟩
          have hsb := share_bd (xs := ps) (n := j) hMb.1 hb hd
          rw [hsh] at hsb
          have HSH := Lib.hid hsh
          clear hsh
          go_wp2_with fail
          (with_reducible refine (share_is P j cP ps b dd sh _ hPy HTs HSH).mono ?_)
          clear q0 q1 f0 f1
          rintro e w10 ⟨rfl, hx10⟩
          have HX : Hid (Ext w w10) := Ext.trans hEy hx10
          clear hx10 hEy hTy hPy
          go_wp2
          go_ret
          exact ⟨rfl, Ext.below HX.out⟩
end fnHolds
end Go.Proofs.Ytbaabghehpcjnaa
