/- Whether a pattern of two jugglers is valid: the contracts. No condition but the stated bounds. -/
import Derived.Test.YtbihbhdaenhdoaaGreatThr3
namespace Go.Proofs.YtbihbhdaenhdoaaGreat
set_option linter.unusedVariables false
set_option linter.unusedSimpArgs false
open Go.ChangeShapes Go.WideShapes Go.ChangeAt Go.RowKit Go.Joins Go.Deep

/-- The places of L are taken, of N. -/
def Tak (w : World) (b N : Nat) (L : List Nat) : Prop := ∀ o, o < N → w.cell? ⟨b, o, none⟩ = some (.bool (decide (o ∈ L))) ∧ w.frozen? ⟨b, o, none⟩ = false
theorem Tak.ext {w w' : World} {b N : Nat} {L : List Nat} (h : Tak w b N L) (k : Ext w w') (hb : b < w.heap.size) : Tak w' b N L :=
  fun o ho => ⟨k.cell hb (h o ho).1, (k.cells.2 b o hb).trans (h o ho).2⟩
theorem Tak.set {w : World} {b N : Nat} {L : List Nat} (h : Tak w b N L) {p : Nat} (hp : p < N) : Tak (w.setCell ⟨b, p, none⟩ (.bool true)) b N (L ++ [p]) := fun o ho => by
  by_cases e : o = p
  · subst e
    refine ⟨?_, ?_⟩
    · rw [World.cell?_setCell_same _ _ _ (h o ho).1]
      simp
    · rw [World.frozen?_setCell]
      exact (h o ho).2
  · refine ⟨?_, ?_⟩
    · rw [World.cell?_setCell_other _ _ _ _ (fun e' => e (by cases e'; rfl)), (h o ho).1]
      simp [e]
    · rw [World.frozen?_setCell]
      exact (h o ho).2
theorem fpas_parts {ts us : List (Int × Bool)} (h : fpas ts us = true) : 1 ≤ ts.length ∧ ts.length ≤ 8 ∧ us.length = ts.length ∧ (∀ i, i < ts.length → 0 ≤ tv ts i ∧ tv ts i ≤ 15) ∧ (∀ i, i < us.length → 0 ≤ tv us i ∧ tv us i ≤ 15) := by
  unfold fpas at h
  simp only [Bool.and_eq_true, btw_iff, beq_iff_eq] at h
  obtain ⟨⟨⟨h1, h2⟩, h3⟩, h4⟩ := h
  unfold allp at h3 h4
  rw [decide_eq_true_iff] at h3 h4
  refine ⟨by omega, by omega, h2.symm, fun i hi => ?_, fun i hi => ?_⟩
  · have := h3 i hi
    unfold pok at this
    simp only [Bool.and_eq_true, btw_iff] at this
    exact this.1
  · have := h4 i hi
    unfold pok at this
    simp only [Bool.and_eq_true, btw_iff] at this
    exact this.1
theorem nodup_no {a b : List Nat} {x : Nat} (h : x ∈ a) : ¬ (a ++ x :: b).Nodup := by
  intro hn
  rw [List.nodup_append] at hn
  exact hn.2.2 x h x (by simp) rfl
/-- The places that are taken ahead of a juggler. -/
def LJ (n : Nat) (ts us : List (Int × Bool)) : Nat → List Nat
  | 0 => []
  | 1 => ljs true n ts n
  | _ => ljs true n ts n ++ ljs false n us n
theorem ljs_sub (b : Bool) (n : Nat) (ts : List (Int × Bool)) {k m : Nat} (h : k ≤ m) : (ljs b n ts k).Sublist (ljs b n ts m) := by
  unfold ljs
  exact List.Sublist.map _ (List.range_sublist.2 h)
set_option maxHeartbeats 2000000 in
theorem ValidPassing_any (A B : Option Addr) (n c m d : Nat) (ts us : List (Int × Bool)) (w : World) (hI : Thr w A n ts) (hJ : Thr w B m us) :
    Calls Tryz.prog 55 #[.agg #[.slice A n c, .slice B m d]] w fun e w' => e = .returned (.bool (vpas ts us)) ∧ Ext w w' := by
  cases hf : fpas ts us
  · have HV : Hid (vpas ts us = false) := by show _ = _; simp [vpas, hf]
    go_enter Tryz.func55, Tryz.ntmps55
    go_wp2_with fail
    (with_reducible refine (isPassingForm_any _ _ n _ m _ ts us _ (hI.ext (by with_reducible (repeat (first | exact Ext.refl _ | apply Ext.drewN | apply Ext.drew | apply Ext.alloc | (refine Ext.set ?_ (by first | (simp; done) | (simp; omega) | omega) _) | (refine Ext.trans ?_ (by assumption)))))) (hJ.ext (by with_reducible (repeat (first | exact Ext.refl _ | apply Ext.drewN | apply Ext.drew | apply Ext.alloc | (refine Ext.set ?_ (by first | (simp; done) | (simp; omega) | omega) _) | (refine Ext.trans ?_ (by assumption))))))).mono ?_)
    rw [hf]
    rintro e w1 ⟨rfl, hx⟩
    go_wp2
    go_ret
    exact ⟨ret_bool HV.out.symm, (by with_reducible (repeat (first | exact Ext.refl _ | apply Ext.drewN | apply Ext.drew | apply Ext.alloc | (refine Ext.set ?_ (by first | (simp; done) | (simp; omega) | omega) _) | (refine Ext.trans ?_ (by assumption)))))⟩
  · obtain ⟨g1, g2, g3, g4, g5⟩ := fpas_parts hf
    have l1 := hI.len
    have l2 := hJ.len
    obtain rfl : m = n := by omega
    rw [l1] at g1 g2
    have HL := Lib.hid l1
    have HA : Hid (∀ i, i < m → 0 ≤ tv ts i ∧ tv ts i ≤ 15) := by rw [← l1]; exact g4
    have HB : Hid (∀ i, i < m → 0 ≤ tv us i ∧ tv us i ≤ 15) := by rw [← l2]; exact g5
    have HV : Hid (vpas ts us = decide ((ljs true m ts m ++ ljs false m us m).Nodup)) := by show _ = _; unfold vpas; rw [hf, l1]; rfl
    clear g3 g4 g5 l1 l2
    go_enter Tryz.func55, Tryz.ntmps55
    go_wp2_with fail
    (with_reducible refine (isPassingForm_any _ _ m _ m _ ts us _ (hI.ext (by with_reducible (repeat (first | exact Ext.refl _ | apply Ext.drewN | apply Ext.drew | apply Ext.alloc | (refine Ext.set ?_ (by first | (simp; done) | (simp; omega) | omega) _) | (refine Ext.trans ?_ (by assumption)))))) (hJ.ext (by with_reducible (repeat (first | exact Ext.refl _ | apply Ext.drewN | apply Ext.drew | apply Ext.alloc | (refine Ext.set ?_ (by first | (simp; done) | (simp; omega) | omega) _) | (refine Ext.trans ?_ (by assumption))))))).mono ?_)
    rw [hf]
    rintro e w1 ⟨rfl, hx⟩
    have hz1 := hx.size
    (try simp at hz1)
    have q0 : w.heap.size < w1.heap.size := by omega
    have k0 : ∀ o, w1.cell? ⟨w.heap.size, o, none⟩ = _ := fun o => hx.cells.1 _ o (by first | (simp; done) | (simp; omega) | omega)
    have hE : Ext w w1 := Ext.trans (by with_reducible (repeat (first | exact Ext.refl _ | apply Ext.drewN | apply Ext.drew | apply Ext.alloc | (refine Ext.set ?_ (by first | (simp; done) | (simp; omega) | omega) _) | (refine Ext.trans ?_ (by assumption))))) hx
    have hT : w.heap.size < w1.heap.size := by omega
    clear hx hf hz1 q0
    go_wp2
    go_loopw [23] (fun i wr => ∃ j : Nat, j ≤ 2 ∧ i = .int .i64 j ∧ Ext w wr ∧ w1.heap.size + 1 < wr.heap.size ∧ wr.cell? ⟨w1.heap.size + 1, 0, none⟩ = some (.slice A m c) ∧ wr.cell? ⟨w1.heap.size + 1, 1, none⟩ = some (.slice B m d) ∧ Tak wr w1.heap.size 16 (LJ m ts us j) ∧ (LJ m ts us j).Nodup) (fun i _ => 2 - (intOf i).toNat)
    case atStart =>
      refine ⟨0, by omega, rfl, (by with_reducible (repeat (first | exact Ext.refl _ | apply Ext.drewN | apply Ext.drew | apply Ext.alloc | (refine Ext.set ?_ (by first | (simp; done) | (simp; omega) | omega) _) | (refine Ext.trans ?_ (by assumption))))), by simp, by go_simp, by go_simp, fun o ho => ?_, by simp [LJ]⟩
      have : o = 0 ∨ o = 1 ∨ o = 2 ∨ o = 3 ∨ o = 4 ∨ o = 5 ∨ o = 6 ∨ o = 7 ∨ o = 8 ∨ o = 9 ∨ o = 10 ∨ o = 11 ∨ o = 12 ∨ o = 13 ∨ o = 14 ∨ o = 15 := by omega
      rcases this with h | h | h | h | h | h | h | h | h | h | h | h | h | h | h | h <;> subst h <;> (refine ⟨?_, ?_⟩ <;> go_simp) <;> simp [LJ]
    case round =>
      obtain ⟨j, hj, rfl, hxo, hbo, s0, s1, hTo, hNo⟩ := hrel
      by_cases hj2 : j = 2
      · subst hj2
        have HF : Hid (vpas ts us = true) := by show _ = _; rw [HV.out]; simpa [LJ] using hNo
        clear hTo hNo
        go_wp2
        go_ret
        exact ⟨ret_bool HF.out.symm, (by with_reducible (repeat (first | exact Ext.refl _ | apply Ext.drewN | apply Ext.drew | apply Ext.alloc | (refine Ext.set ?_ (by first | (simp; done) | (simp; omega) | omega) _) | (refine Ext.trans ?_ (by assumption)))))⟩
      · obtain ⟨A', c', xs, L0, b, hcj, hIJ, hb, hL0, hLs, hXS, hSub⟩ : ∃ A' c' xs L0 b, wr.cell? ⟨w1.heap.size + 1, j, none⟩ = some (.slice A' m c') ∧ Thr w A' m xs ∧ ((j : Int) == 0) = b ∧ LJ m ts us j = L0 ∧ LJ m ts us (j + 1) = L0 ++ ljs b m xs m ∧ (∀ i, i < m → 0 ≤ tv xs i ∧ tv xs i ≤ 15) ∧ (∀ k, k ≤ m → ¬ (L0 ++ ljs b m xs k).Nodup → vpas ts us = false) := by
          rcases (show j = 0 ∨ j = 1 by omega) with h | h
          · subst h
            refine ⟨A, c, ts, [], true, s0, hI, rfl, rfl, rfl, HA.out, fun k hk hn => ?_⟩
            rw [HV.out, decide_eq_false_iff_not]
            exact fun h => hn ((List.Nodup.sublist (List.sublist_append_left _ _) h).sublist (by simpa using ljs_sub true m ts hk))
          · subst h
            refine ⟨B, d, us, _, false, s1, hJ, rfl, rfl, rfl, HB.out, fun k hk hn => ?_⟩
            rw [HV.out, decide_eq_false_iff_not]
            exact fun h => hn (List.Nodup.sublist (List.Sublist.append (List.Sublist.refl _) (ljs_sub false m us hk)) h)
        rw [hL0] at hTo hNo
        have HLS := Lib.hid hLs
        have HXS := Lib.hid hXS
        have HSUB := Lib.hid hSub
        have hj1 : (j : Int) < 2 := by omega
        clear hLs hXS hSub hL0
        go_wp2
        obtain ⟨wo, hwo⟩ : ∃ wo : World, wo = wr := ⟨_, rfl⟩
        subst hwo
        go_loopw [30] (fun i wr => ∃ k : Nat, k ≤ m ∧ i = .int .i64 k ∧ Ext w wr ∧ w1.heap.size + 1 < wr.heap.size ∧ wr.cell? ⟨w1.heap.size + 1, 0, none⟩ = some (.slice A m c) ∧ wr.cell? ⟨w1.heap.size + 1, 1, none⟩ = some (.slice B m d) ∧ Tak wr w1.heap.size 16 (L0 ++ ljs b m xs k) ∧ (L0 ++ ljs b m xs k).Nodup) (fun i _ => m - (intOf i).toNat)
        case atStart => exact ⟨0, by omega, rfl, hxo, hbo, s0, s1, by simpa [ljs] using hTo, by simpa [ljs] using hNo⟩
        case round =>
          clear hTo hNo hxo hbo s0 s1 hcj
          obtain ⟨k, hk, rfl, hxr, hbr, s0, s1, hTr, hNr⟩ := hrel
          by_cases hlt : k < m
          · obtain ⟨g, off, rfl, hg, hcell⟩ := (hIJ.ext hxr).at_ (by omega)
            obtain ⟨c0, c1⟩ := hcell k hlt
            have hki : (k : Int) < m := by omega
            clear hcell
            have hbd := HXS.out k hlt
            obtain ⟨u, hu⟩ : ∃ u : Nat, tv xs k = u := ⟨(tv xs k).toNat, by omega⟩
            obtain ⟨p, hp⟩ : ∃ p, tp xs k = p := ⟨_, rfl⟩
            have hlj : lj b m xs k = (k + u) % m * 2 + (if p == b then 1 else 0) := by unfold lj; rw [hu, hp, Int.toNat_natCast]
            have hlj2 := lj_lt (b := b) (show 0 < m by omega) xs k
            rw [hu] at c0 hbd
            rw [hp] at c1
            have hq : ((k : Int) + u) % m = (((k + u) % m : Nat) : Int) := by norm_cast
            obtain ⟨o, ho⟩ : ∃ o, lj b m xs k = o := ⟨_, rfl⟩
            rw [ho] at hlj hlj2
            obtain ⟨d0, f0⟩ := hTr o (by omega)
            have HOL : Hid (ljs b m xs (k + 1) = ljs b m xs k ++ [o]) := by show _ = _; rw [ljs_succ, ho]
            clear hu hp ho
            generalize (k + u) % m = q at hlj hq
            cases hpb : (p == b)
            · rw [hpb] at hlj
              have ho2 : o = q * 2 := by simpa using hlj
              clear hlj
              cases hm : decide (o ∈ L0 ++ ljs b m xs k)
              · have hno : o ∉ L0 ++ ljs b m xs k := of_decide_eq_false hm
                rw [hm] at d0
                have HN : Hid ((L0 ++ ljs b m xs (k + 1)).Nodup) := by
                  show List.Nodup _
                  rw [HOL.out, ← List.append_assoc, List.nodup_append]
                  exact ⟨hNr, by simp, fun a ha c hc => by simp at hc; subst hc; rintro rfl; exact hno ha⟩
                clear hm hno hNr
                have hbr1 : w1.heap.size < wr.heap.size := by omega
                have HT2 : Hid (Tak ((wr.setCell ⟨w1.heap.size, o, none⟩ (.bool true)).alloc (.cells #[.int .i64 u, .bool p] 86)) w1.heap.size 16 (L0 ++ ljs b m xs k ++ [o])) := (hTr.set (p := o) (by omega)).ext ((Ext.refl _).alloc _) (by simpa [World.setCell] using hbr1)
                clear hTr
                have hxn : Ext w ((wr.setCell ⟨w1.heap.size, o, none⟩ (.bool true)).alloc (.cells #[.int .i64 u, .bool p] 86)) := (hxr.set (by simp; omega) _).alloc _
                subst ho2
                go_wp2
                go_roundw
                case rel => exact ⟨k + 1, by omega, by go_num, hxn, by simp [World.setCell]; omega, by go_simp, by go_simp, by rw [HOL.out, ← List.append_assoc]; exact HT2.out, HN.out⟩
                case measure => simp [intOf]; omega
              · have hyes : o ∈ L0 ++ ljs b m xs k := of_decide_eq_true hm
                rw [hm] at d0
                have HF : Hid (vpas ts us = false) := HSUB.out (k + 1) (by omega) (by rw [HOL.out, ← List.append_assoc]; exact nodup_no hyes)
                clear hm hyes hNr hTr
                have hbr1 : w1.heap.size < wr.heap.size := by omega
                subst ho2
                go_wp2
                go_ret
                exact ⟨ret_bool HF.out.symm, (by with_reducible (repeat (first | exact Ext.refl _ | apply Ext.drewN | apply Ext.drew | apply Ext.alloc | (refine Ext.set ?_ (by first | (simp; done) | (simp; omega) | omega) _) | (refine Ext.trans ?_ (by assumption)))))⟩
            · rw [hpb] at hlj
              have ho2 : o = q * 2 + 1 := by simpa using hlj
              clear hlj
              cases hm : decide (o ∈ L0 ++ ljs b m xs k)
              · have hno : o ∉ L0 ++ ljs b m xs k := of_decide_eq_false hm
                rw [hm] at d0
                have HN : Hid ((L0 ++ ljs b m xs (k + 1)).Nodup) := by
                  show List.Nodup _
                  rw [HOL.out, ← List.append_assoc, List.nodup_append]
                  exact ⟨hNr, by simp, fun a ha c hc => by simp at hc; subst hc; rintro rfl; exact hno ha⟩
                clear hm hno hNr
                have hbr1 : w1.heap.size < wr.heap.size := by omega
                have HT2 : Hid (Tak ((wr.setCell ⟨w1.heap.size, o, none⟩ (.bool true)).alloc (.cells #[.int .i64 u, .bool p] 86)) w1.heap.size 16 (L0 ++ ljs b m xs k ++ [o])) := (hTr.set (p := o) (by omega)).ext ((Ext.refl _).alloc _) (by simpa [World.setCell] using hbr1)
                clear hTr
                have hxn : Ext w ((wr.setCell ⟨w1.heap.size, o, none⟩ (.bool true)).alloc (.cells #[.int .i64 u, .bool p] 86)) := (hxr.set (by simp; omega) _).alloc _
                subst ho2
                go_wp2
                go_roundw
                case rel => exact ⟨k + 1, by omega, by go_num, hxn, by simp [World.setCell]; omega, by go_simp, by go_simp, by rw [HOL.out, ← List.append_assoc]; exact HT2.out, HN.out⟩
                case measure => simp [intOf]; omega
              · have hyes : o ∈ L0 ++ ljs b m xs k := of_decide_eq_true hm
                rw [hm] at d0
                have HF : Hid (vpas ts us = false) := HSUB.out (k + 1) (by omega) (by rw [HOL.out, ← List.append_assoc]; exact nodup_no hyes)
                clear hm hyes hNr hTr
                have hbr1 : w1.heap.size < wr.heap.size := by omega
                subst ho2
                go_wp2
                go_ret
                exact ⟨ret_bool HF.out.symm, (by with_reducible (repeat (first | exact Ext.refl _ | apply Ext.drewN | apply Ext.drew | apply Ext.alloc | (refine Ext.set ?_ (by first | (simp; done) | (simp; omega) | omega) _) | (refine Ext.trans ?_ (by assumption)))))⟩
          · obtain rfl : k = m := by omega
            have HTE : Hid (Tak wr w1.heap.size 16 (LJ k ts us (j + 1))) := by show Tak _ _ _ _; rw [HLS.out]; exact hTr
            have HNE : Hid ((LJ k ts us (j + 1)).Nodup) := by show List.Nodup _; rw [HLS.out]; exact hNr
            clear hTr hNr
            go_wp2
            go_roundw
            case rel => exact ⟨j + 1, by omega, by go_num, hxr, hbr, s0, s1, HTE.out, HNE.out⟩
            case measure => simp [intOf]; omega
/-- Both jugglers' places, beat by beat. -/
def lbs (n : Nat) (ts us : List (Int × Bool)) : Nat → List Nat
  | 0 => []
  | k + 1 => lbs n ts us k ++ [lj true n ts k, lj false n us k]
theorem lbs_perm (n : Nat) (ts us : List (Int × Bool)) : ∀ k, (lbs n ts us k).Perm (ljs true n ts k ++ ljs false n us k)
  | 0 => by simp [lbs, ljs]
  | k + 1 => by
    have h := lbs_perm n ts us k
    simp only [lbs, ljs_succ]
    refine (h.append_right _).trans ?_
    simp only [List.append_assoc]
    refine List.Perm.append_left _ ?_
    exact (List.perm_append_comm_assoc _ [lj true n ts k] [lj false n us k])
theorem lbs_nodup (n : Nat) (ts us : List (Int × Bool)) (k : Nat) : (lbs n ts us k).Nodup ↔ (ljs true n ts k ++ ljs false n us k).Nodup := (lbs_perm n ts us k).nodup_iff
theorem lbs_sub (n : Nat) (ts us : List (Int × Bool)) {k m : Nat} (h : k ≤ m) : (lbs n ts us k).Sublist (lbs n ts us m) := by
  induction m with
  | zero => obtain rfl : k = 0 := by omega
            exact List.Sublist.refl _
  | succ m ih =>
    by_cases e : k = m + 1
    · subst e; exact List.Sublist.refl _
    · exact (ih (by omega)).trans (List.sublist_append_left _ _)
theorem infoBool : (Tryz.prog.info? 4).map (fun i => (i.zero, i.size, i.bytes)) = some (some (.bool false), 1, 1) := by kernel_rfl
theorem run_make_bools (n : Nat) (hn : n ≤ 1048576) (w : World) :
    (Instr.makeSlice 127 (.int .i64 (n : Int)) (.int .i64 (n : Int))).run Tryz.prog w = .ok (.slice (some ⟨w.heap.size, 0, none⟩) n n) (w.alloc (.cells (madeCells #[.bool false] n) 4)) := by
  obtain ⟨i, hi, hzz⟩ := Option.map_eq_some_iff.1 infoBool
  simp only [Prod.mk.injEq] at hzz
  obtain ⟨hz, hs, hb⟩ := hzz
  have hr := run_make (P := Tryz.prog) w 127 4 i _ Tryz.underlying127 hi hz .i64 .i64 n n (by omega) (Int.le_refl _) (by rw [hb]; omega) (by omega)
  simp only [Int.toNat_natCast, hs, Nat.mul_one] at hr
  exact hr
set_option maxHeartbeats 2000000 in
theorem l06Ok_any (g : Nat) (A B : Option Addr) (n c m d : Nat) (ts us : List (Int × Bool)) (w : World) (hb : PBox w g A n c B m d) (hI : Thr w A n ts) (hJ : Thr w B m us) :
    Calls Tryz.prog 69 #[.pointer (some ⟨g, 0, none⟩)] w fun e w' => e = .returned (.bool (vpas ts us)) ∧ Ext w w' := by
  cases hf : fpas ts us
  · have HV : Hid (vpas ts us = false) := by show _ = _; simp [vpas, hf]
    go_enter Tryz.func69, Tryz.ntmps69
    go_wp2_with fail
    (with_reducible refine (l06Shape_any g A B n _ m _ ts us _ hb hI hJ).mono ?_)
    rw [hf]
    rintro e w1 ⟨rfl, q, rfl⟩
    go_wp2
    go_ret
    exact ⟨ret_bool HV.out.symm, (by with_reducible (repeat (first | exact Ext.refl _ | apply Ext.drewN | apply Ext.drew | apply Ext.alloc | (refine Ext.set ?_ (by first | (simp; done) | (simp; omega) | omega) _) | (refine Ext.trans ?_ (by assumption)))))⟩
  · obtain ⟨g1, g2, g3, g4, g5⟩ := fpas_parts hf
    have l1 := hI.len
    have l2 := hJ.len
    obtain rfl : m = n := by omega
    rw [l1] at g1 g2
    have HA : Hid (∀ i, i < m → 0 ≤ tv ts i ∧ tv ts i ≤ 15) := by rw [← l1]; exact g4
    have HB : Hid (∀ i, i < m → 0 ≤ tv us i ∧ tv us i ≤ 15) := by rw [← l2]; exact g5
    have HV : Hid (vpas ts us = decide ((lbs m ts us m).Nodup)) := by show _ = _; unfold vpas; rw [hf, l1, Bool.true_and]; exact decide_eq_decide.2 (lbs_nodup m ts us m).symm
    clear g3 g4 g5 l1 l2
    obtain ⟨hlt, p0, p1⟩ := hb
    have hmk := fun W => run_make_bools (2 * m) (by omega) W
    have e2 : (2 : Int) * m = ((2 * m : Nat) : Int) := by omega
    rw [← e2] at hmk
    clear e2
    go_enter Tryz.func69, Tryz.ntmps69
    go_wp2_with fail
    (with_reducible refine (l06Shape_any g A B m _ m _ ts us _ ⟨hlt, p0, p1⟩ hI hJ).mono ?_)
    rw [hf]
    rintro e w1 ⟨rfl, q, rfl⟩
    go_wp2
    clear hmk
    go_loopw [5] (fun i wr => ∃ k : Nat, k ≤ m ∧ i = .int .i64 k ∧ Ext w wr ∧ w.heap.size < wr.heap.size ∧ Tak wr w.heap.size (2 * m) (lbs m ts us k) ∧ (lbs m ts us k).Nodup) (fun i _ => m - (intOf i).toNat)
    case atStart =>
      refine ⟨0, by omega, rfl, (by with_reducible (repeat (first | exact Ext.refl _ | apply Ext.drewN | apply Ext.drew | apply Ext.alloc | (refine Ext.set ?_ (by first | (simp; done) | (simp; omega) | omega) _) | (refine Ext.trans ?_ (by assumption))))), by simp, fun o ho => ⟨?_, ?_⟩, by simp [lbs]⟩
      · rw [World.cell?_alloc_at (hn := by simp)]
        simp [madeCells, lbs, ho, Nat.mod_one]
      · first | exact World.frozen?_alloc_at _ _ _ _ rfl | exact World.frozen?_alloc_at _ _ _ _ _ rfl
    case round =>
      obtain ⟨k, hk, rfl, hxr, hbr, hTr, hNr⟩ := hrel
      by_cases hlk : k < m
      · have hki : (k : Int) < m := by omega
        obtain ⟨v, hv⟩ : ∃ v, tv ts k = v := ⟨_, rfl⟩
        obtain ⟨p, hp⟩ : ∃ p, tp ts k = p := ⟨_, rfl⟩
        obtain ⟨v', hv'⟩ : ∃ v, tv us k = v := ⟨_, rfl⟩
        obtain ⟨p', hp'⟩ : ∃ p, tp us k = p := ⟨_, rfl⟩
        obtain ⟨oa, hoa⟩ : ∃ o, lj true m ts k = o := ⟨_, rfl⟩
        obtain ⟨ob, hob⟩ : ∃ o, lj false m us k = o := ⟨_, rfl⟩
        have la := lj_lt (b := true) (show 0 < m by omega) ts k
        have lb := lj_lt (b := false) (show 0 < m by omega) us k
        rw [hoa] at la
        rw [hob] at lb
        have HVP := Lib.hid (And.intro hv hp)
        have HVP' := Lib.hid (And.intro hv' hp')
        have HOA := Lib.hid hoa
        have HOB := Lib.hid hob
        have bdA := HA.out k hlk
        have bdB := HB.out k hlk
        have hS : Hid (lbs m ts us (k + 1) = lbs m ts us k ++ [oa, ob]) := by show _ = _; rw [← hoa, ← hob]; rfl
        have HNO : Hid (¬ (lbs m ts us k ++ [oa, ob]).Nodup → vpas ts us = false) := fun h => by
          rw [HV.out, decide_eq_false_iff_not]
          intro h'
          have := List.Nodup.sublist (lbs_sub m ts us (show k + 1 ≤ m by omega)) h'
          rw [hS.out] at this
          exact h this
        obtain ⟨b1, off1, hA, hb1, hcell1⟩ := (hI.ext hxr).at_ (by omega)
        subst hA
        obtain ⟨c0, c1⟩ := hcell1 k hlk
        rw [hv] at c0 bdA
        rw [hp] at c1
        have r0 := hxr.cell hlt p0
        rw [hv'] at bdB
        clear hcell1 hv hp hv' hp' hoa hob
        go_wp2_with fail
        (with_reducible refine (l06Land_is true 0 rfl v p ts k m oa _ HVP.out.1 HVP.out.2 bdA ⟨g1, g2⟩ hlk HOA.out).mono ?_)
        rintro e w2 ⟨rfl, hx2⟩
        have hE2 : Ext w w2 := hxr.trans hx2
        obtain ⟨b2, off2, hB, hb2, hcell2⟩ := (hJ.ext hE2).at_ (by omega)
        subst hB
        obtain ⟨d0, d1⟩ := hcell2 k hlk
        rw [HVP'.out.1] at d0
        rw [HVP'.out.2] at d1
        have r1 := hE2.cell hlt p1
        clear hcell2
        go_wp2_with fail
        (with_reducible refine (l06Land_is false 1 rfl v' p' us k m ob _ HVP'.out.1 HVP'.out.2 bdB ⟨g1, g2⟩ hlk HOB.out).mono ?_)
        rintro e w3 ⟨rfl, hx3⟩
        have hE3 : Ext w w3 := hE2.trans hx3
        have hz2 := hx2.size
        have hz3 := hx3.size
        have hT3 : Tak w3 w.heap.size (2 * m) (lbs m ts us k) := (hTr.ext hx2 hbr).ext hx3 (by omega)
        obtain ⟨ca, fa⟩ := hT3 oa (by omega)
        obtain ⟨cb, fb⟩ := hT3 ob (by omega)
        have hb3 : w.heap.size < w3.heap.size := by omega
        clear hx2 hx3 hE2 hTr hz2 hz3 d0 d1 r1 c0 c1 r0 hxr
        have lai : (oa : Int) < 2 * m := by omega
        have lbi : (ob : Int) < 2 * m := by omega
        cases hma : decide (oa ∈ lbs m ts us k)
        · rw [hma] at ca
          by_cases hab : oa = ob
          · have HF : Hid (vpas ts us = false) := HNO.out (by subst hab; intro h; rw [List.nodup_append] at h; simp at h)
            have habi : (oa : Int) = ob := by omega
            subst hab
            clear hma hNr hT3
            go_wp2
            go_ret
            exact ⟨ret_bool HF.out.symm, (by with_reducible (repeat (first | exact Ext.refl _ | apply Ext.drewN | apply Ext.drew | apply Ext.alloc | (refine Ext.set ?_ (by first | (simp; done) | (simp; omega) | omega) _) | (refine Ext.trans ?_ (by assumption)))))⟩
          · have habi : ¬ (oa : Int) = ob := by omega
            cases hmb : decide (ob ∈ lbs m ts us k)
            · rw [hmb] at cb
              have na : oa ∉ lbs m ts us k := of_decide_eq_false hma
              have nb : ob ∉ lbs m ts us k := of_decide_eq_false hmb
              have HN : Hid ((lbs m ts us (k + 1)).Nodup) := by
                show List.Nodup _
                rw [hS.out, List.nodup_append]
                refine ⟨hNr, by simp [hab], fun a ha c hc => ?_⟩
                simp at hc
                rcases hc with rfl | rfl
                · rintro rfl; exact na ha
                · rintro rfl; exact nb ha
              have HT3 : Hid (Tak ((w3.setCell ⟨w.heap.size, oa, none⟩ (.bool true)).setCell ⟨w.heap.size, ob, none⟩ (.bool true)) w.heap.size (2 * m) (lbs m ts us (k + 1))) := by
                show Tak _ _ _ _
                rw [hS.out, show lbs m ts us k ++ [oa, ob] = (lbs m ts us k ++ [oa]) ++ [ob] by simp]
                exact (hT3.set la).set lb
              clear hma hmb na nb hNr hT3
              go_wp2
              go_roundw
              case rel => exact ⟨k + 1, by omega, by go_num, (hE3.set (Nat.le_refl _) _).set (Nat.le_refl _) _, by simpa [World.setCell] using hb3, HT3.out, HN.out⟩
              case measure => simp [intOf]; omega
            · rw [hmb] at cb
              have HF : Hid (vpas ts us = false) := HNO.out (by intro h; rw [show lbs m ts us k ++ [oa, ob] = (lbs m ts us k ++ [oa]) ++ ob :: [] by simp] at h; exact nodup_no (by have := of_decide_eq_true hmb; simp [this]) h)
              clear hma hmb hNr hT3
              go_wp2
              go_ret
              exact ⟨ret_bool HF.out.symm, (by with_reducible (repeat (first | exact Ext.refl _ | apply Ext.drewN | apply Ext.drew | apply Ext.alloc | (refine Ext.set ?_ (by first | (simp; done) | (simp; omega) | omega) _) | (refine Ext.trans ?_ (by assumption)))))⟩
        · rw [hma] at ca
          have HF : Hid (vpas ts us = false) := HNO.out (nodup_no (of_decide_eq_true hma))
          clear hma hNr hT3
          go_wp2
          go_ret
          exact ⟨ret_bool HF.out.symm, (by with_reducible (repeat (first | exact Ext.refl _ | apply Ext.drewN | apply Ext.drew | apply Ext.alloc | (refine Ext.set ?_ (by first | (simp; done) | (simp; omega) | omega) _) | (refine Ext.trans ?_ (by assumption)))))⟩
      · obtain rfl : k = m := by omega
        have HF : Hid (vpas ts us = true) := by show _ = _; rw [HV.out]; simpa using hNr
        clear hTr hNr
        go_wp2
        go_ret
        exact ⟨ret_bool HF.out.symm, (by with_reducible (repeat (first | exact Ext.refl _ | apply Ext.drewN | apply Ext.drew | apply Ext.alloc | (refine Ext.set ?_ (by first | (simp; done) | (simp; omega) | omega) _) | (refine Ext.trans ?_ (by assumption)))))⟩
end Go.Proofs.YtbihbhdaenhdoaaGreat
