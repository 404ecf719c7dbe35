/- Validity of a passing pattern that lies in a field of a struct: contracts of l06Shape and l06Ok at an offset. No condition but the stated bounds. (tools/gpbo.py) -/
import Derived.Test.YtbihbhdaenhdoaaGreatThr4
namespace Go.Proofs.YtbihbhdaenhdoaaGreat
set_option linter.unusedVariables false
set_option linter.unusedSimpArgs false
open Go.ChangeShapes Go.WideShapes Go.ChangeAt Go.RowKit Go.Joins Go.Deep

/-- A box of a pattern. -/
structure PBoxO (w : World) (b fo : Nat) (A : Option Addr) (n c : Nat) (B : Option Addr) (m d : Nat) : Prop where
  lt : b < w.heap.size
  c0 : w.cell? ⟨b, fo, none⟩ = some (.slice A n c)
  c1 : w.cell? ⟨b, fo + 1, none⟩ = some (.slice B m d)
theorem PBoxO.ext {w w' : World} {b fo : Nat} {A : Option Addr} {n c : Nat} {B : Option Addr} {m d : Nat} (h : PBoxO w b fo A n c B m d) (k : Ext w w') : PBoxO w' b fo A n c B m d :=
  ⟨Nat.lt_of_lt_of_le h.lt k.size, k.cell h.lt h.c0, k.cell h.lt h.c1⟩
set_option maxHeartbeats 1000000 in
theorem l06Shape_o (b fo : Nat) (A B : Option Addr) (n c m d : Nat) (ts us : List (Int × Bool)) (w : World) (hb : PBoxO w b fo A n c B m d) (hI : Thr w A n ts) (hJ : Thr w B m us) :
    Calls Tryz.prog 104 #[.pointer (some ⟨b, fo, none⟩)] w fun e w' => e = .returned (.bool (fpas ts us)) ∧ Qt w w' := by
  have hs := hI.small
  have hs2 := hJ.small
  have e1 := hI.len
  have e2 := hJ.len
  have HX : Hid (fpas ts us = (btw (n : Int) 1 8 && (n == m) && allp ts && allp us)) := by show _ = _; unfold fpas; rw [e1, e2]
  clear e1 e2
  obtain ⟨hlt, c0, c1⟩ := hb
  cases h1 : (allp ts && btw (n : Int) 1 8)
  · have HF : Hid (fpas ts us = false) := by
      show _ = _
      rw [HX.out]
      cases ha : allp ts
      · simp
      · rw [ha, Bool.true_and] at h1; rw [h1]; simp
    go_enter Tryz.func104, Tryz.ntmps104
    go_wp2
    go_quiet ((go_at_call 123; first | with_reducible exact quiet_l (l06List_is A n c ts _ h1 _ (hI.ext (by with_reducible (repeat (first | exact Ext.refl _ | apply Ext.drewN | apply Ext.drew | apply Ext.alloc | (refine Ext.set ?_ (by first | (simp; done) | (simp; omega) | omega) _) | (refine Ext.trans ?_ (by assumption))))))) | with_reducible exact quiet_la (l06List_is A n c ts _ h1 _ (hI.ext (by with_reducible (repeat (first | exact Ext.refl _ | apply Ext.drewN | apply Ext.drew | apply Ext.alloc | (refine Ext.set ?_ (by first | (simp; done) | (simp; omega) | omega) _) | (refine Ext.trans ?_ (by assumption)))))))))
    go_wp2
    go_ret
    exact ⟨ret_bool HF.out.symm, (by first | exact ⟨_, rfl⟩ | exact ⟨_, World.drewN_drewN _ _ _⟩)⟩
  · cases h2 : (allp us && btw (m : Int) 1 8)
    · have HF : Hid (fpas ts us = false) := by
        show _ = _
        rw [HX.out]
        cases ha : allp us
        · simp
        · rw [ha, Bool.true_and] at h2
          by_cases e : n = m
          · subst e; rw [h2]; simp
          · simp [e]
      go_enter Tryz.func104, Tryz.ntmps104
      go_wp2
      go_quiet (first | (go_at_call 123; first | with_reducible exact quiet_l (l06List_is A n c ts _ h1 _ (hI.ext (by with_reducible (repeat (first | exact Ext.refl _ | apply Ext.drewN | apply Ext.drew | apply Ext.alloc | (refine Ext.set ?_ (by first | (simp; done) | (simp; omega) | omega) _) | (refine Ext.trans ?_ (by assumption))))))) | with_reducible exact quiet_la (l06List_is A n c ts _ h1 _ (hI.ext (by with_reducible (repeat (first | exact Ext.refl _ | apply Ext.drewN | apply Ext.drew | apply Ext.alloc | (refine Ext.set ?_ (by first | (simp; done) | (simp; omega) | omega) _) | (refine Ext.trans ?_ (by assumption)))))))) | (go_at_call 123; first | with_reducible exact quiet_l (l06List_is B m d us _ h2 _ (hJ.ext (by with_reducible (repeat (first | exact Ext.refl _ | apply Ext.drewN | apply Ext.drew | apply Ext.alloc | (refine Ext.set ?_ (by first | (simp; done) | (simp; omega) | omega) _) | (refine Ext.trans ?_ (by assumption))))))) | with_reducible exact quiet_la (l06List_is B m d us _ h2 _ (hJ.ext (by with_reducible (repeat (first | exact Ext.refl _ | apply Ext.drewN | apply Ext.drew | apply Ext.alloc | (refine Ext.set ?_ (by first | (simp; done) | (simp; omega) | omega) _) | (refine Ext.trans ?_ (by assumption)))))))))
      go_wp2
      go_ret
      exact ⟨ret_bool HF.out.symm, (by first | exact ⟨_, rfl⟩ | exact ⟨_, World.drewN_drewN _ _ _⟩)⟩
    · have HF : Hid (fpas ts us = (n == m)) := by
        show _ = _
        rw [HX.out]
        simp only [Bool.and_eq_true] at h1 h2
        rw [h1.1, h1.2, h2.1]
        simp
      by_cases h3 : n = m
      · subst h3
        go_enter Tryz.func104, Tryz.ntmps104
        go_wp2
        go_quiet (first | (go_at_call 123; first | with_reducible exact quiet_l (l06List_is A n c ts _ h1 _ (hI.ext (by with_reducible (repeat (first | exact Ext.refl _ | apply Ext.drewN | apply Ext.drew | apply Ext.alloc | (refine Ext.set ?_ (by first | (simp; done) | (simp; omega) | omega) _) | (refine Ext.trans ?_ (by assumption))))))) | with_reducible exact quiet_la (l06List_is A n c ts _ h1 _ (hI.ext (by with_reducible (repeat (first | exact Ext.refl _ | apply Ext.drewN | apply Ext.drew | apply Ext.alloc | (refine Ext.set ?_ (by first | (simp; done) | (simp; omega) | omega) _) | (refine Ext.trans ?_ (by assumption)))))))) | (go_at_call 123; first | with_reducible exact quiet_l (l06List_is B n d us _ h2 _ (hJ.ext (by with_reducible (repeat (first | exact Ext.refl _ | apply Ext.drewN | apply Ext.drew | apply Ext.alloc | (refine Ext.set ?_ (by first | (simp; done) | (simp; omega) | omega) _) | (refine Ext.trans ?_ (by assumption))))))) | with_reducible exact quiet_la (l06List_is B n d us _ h2 _ (hJ.ext (by with_reducible (repeat (first | exact Ext.refl _ | apply Ext.drewN | apply Ext.drew | apply Ext.alloc | (refine Ext.set ?_ (by first | (simp; done) | (simp; omega) | omega) _) | (refine Ext.trans ?_ (by assumption)))))))))
        go_wp2
        go_ret
        exact ⟨ret_bool (by have := HF.out; simp [this]), (by first | exact ⟨_, rfl⟩ | exact ⟨_, World.drewN_drewN _ _ _⟩)⟩
      · have h3i : ¬ (n : Int) = m := by omega
        go_enter Tryz.func104, Tryz.ntmps104
        go_wp2
        go_quiet (first | (go_at_call 123; first | with_reducible exact quiet_l (l06List_is A n c ts _ h1 _ (hI.ext (by with_reducible (repeat (first | exact Ext.refl _ | apply Ext.drewN | apply Ext.drew | apply Ext.alloc | (refine Ext.set ?_ (by first | (simp; done) | (simp; omega) | omega) _) | (refine Ext.trans ?_ (by assumption))))))) | with_reducible exact quiet_la (l06List_is A n c ts _ h1 _ (hI.ext (by with_reducible (repeat (first | exact Ext.refl _ | apply Ext.drewN | apply Ext.drew | apply Ext.alloc | (refine Ext.set ?_ (by first | (simp; done) | (simp; omega) | omega) _) | (refine Ext.trans ?_ (by assumption)))))))) | (go_at_call 123; first | with_reducible exact quiet_l (l06List_is B m d us _ h2 _ (hJ.ext (by with_reducible (repeat (first | exact Ext.refl _ | apply Ext.drewN | apply Ext.drew | apply Ext.alloc | (refine Ext.set ?_ (by first | (simp; done) | (simp; omega) | omega) _) | (refine Ext.trans ?_ (by assumption))))))) | with_reducible exact quiet_la (l06List_is B m d us _ h2 _ (hJ.ext (by with_reducible (repeat (first | exact Ext.refl _ | apply Ext.drewN | apply Ext.drew | apply Ext.alloc | (refine Ext.set ?_ (by first | (simp; done) | (simp; omega) | omega) _) | (refine Ext.trans ?_ (by assumption)))))))))
        go_wp2
        go_ret
        exact ⟨ret_bool (by rw [HF.out, beq_eq_false_iff_ne.2 h3, beq_eq_false_iff_ne.2 h3i]), (by first | exact ⟨_, rfl⟩ | exact ⟨_, World.drewN_drewN _ _ _⟩)⟩
set_option maxHeartbeats 2000000 in
theorem l06Ok_o (g fo : Nat) (A B : Option Addr) (n c m d : Nat) (ts us : List (Int × Bool)) (w : World) (hb : PBoxO w g fo A n c B m d) (hI : Thr w A n ts) (hJ : Thr w B m us) :
    Calls Tryz.prog 69 #[.pointer (some ⟨g, fo, none⟩)] w fun e w' => e = .returned (.bool (vpas ts us)) ∧ Ext w w' := by
  cases hf : fpas ts us
  · have HV : Hid (vpas ts us = false) := by show _ = _; simp [vpas, hf]
    go_enter Tryz.func69, Tryz.ntmps69
    go_wp2_with fail
    (with_reducible refine (l06Shape_o g fo A B n _ m _ ts us _ hb hI hJ).mono ?_)
    rw [hf]
    rintro e w1 ⟨rfl, q, rfl⟩
    go_wp2
    go_ret
    exact ⟨ret_bool HV.out.symm, (by with_reducible (repeat (first | exact Ext.refl _ | apply Ext.drewN | apply Ext.drew | apply Ext.alloc | (refine Ext.set ?_ (by first | (simp; done) | (simp; omega) | omega) _) | (refine Ext.trans ?_ (by assumption)))))⟩
  · obtain ⟨g1, g2, g3, g4, g5⟩ := fpas_parts hf
    have l1 := hI.len
    have l2 := hJ.len
    obtain rfl : m = n := by omega
    rw [l1] at g1 g2
    have HA : Hid (∀ i, i < m → 0 ≤ tv ts i ∧ tv ts i ≤ 15) := by rw [← l1]; exact g4
    have HB : Hid (∀ i, i < m → 0 ≤ tv us i ∧ tv us i ≤ 15) := by rw [← l2]; exact g5
    have HV : Hid (vpas ts us = decide ((lbs m ts us m).Nodup)) := by show _ = _; unfold vpas; rw [hf, l1, Bool.true_and]; exact decide_eq_decide.2 (lbs_nodup m ts us m).symm
    clear g3 g4 g5 l1 l2
    obtain ⟨hlt, p0, p1⟩ := hb
    have hmk := fun W => run_make_bools (2 * m) (by omega) W
    have e2 : (2 : Int) * m = ((2 * m : Nat) : Int) := by omega
    rw [← e2] at hmk
    clear e2
    go_enter Tryz.func69, Tryz.ntmps69
    go_wp2_with fail
    (with_reducible refine (l06Shape_o g fo A B m _ m _ ts us _ ⟨hlt, p0, p1⟩ hI hJ).mono ?_)
    rw [hf]
    rintro e w1 ⟨rfl, q, rfl⟩
    go_wp2
    clear hmk
    go_loopw [5] (fun i wr => ∃ k : Nat, k ≤ m ∧ i = .int .i64 k ∧ Ext w wr ∧ w.heap.size < wr.heap.size ∧ Tak wr w.heap.size (2 * m) (lbs m ts us k) ∧ (lbs m ts us k).Nodup) (fun i _ => m - (intOf i).toNat)
    case atStart =>
      refine ⟨0, by omega, rfl, (by with_reducible (repeat (first | exact Ext.refl _ | apply Ext.drewN | apply Ext.drew | apply Ext.alloc | (refine Ext.set ?_ (by first | (simp; done) | (simp; omega) | omega) _) | (refine Ext.trans ?_ (by assumption))))), by simp, fun o ho => ⟨?_, ?_⟩, by simp [lbs]⟩
      · rw [World.cell?_alloc_at (hn := by simp)]
        simp [madeCells, lbs, ho, Nat.mod_one]
      · first | exact World.frozen?_alloc_at _ _ _ _ rfl | exact World.frozen?_alloc_at _ _ _ _ _ rfl
    case round =>
      obtain ⟨k, hk, rfl, hxr, hbr, hTr, hNr⟩ := hrel
      by_cases hlk : k < m
      · have hki : (k : Int) < m := by omega
        obtain ⟨v, hv⟩ : ∃ v, tv ts k = v := ⟨_, rfl⟩
        obtain ⟨p, hp⟩ : ∃ p, tp ts k = p := ⟨_, rfl⟩
        obtain ⟨v', hv'⟩ : ∃ v, tv us k = v := ⟨_, rfl⟩
        obtain ⟨p', hp'⟩ : ∃ p, tp us k = p := ⟨_, rfl⟩
        obtain ⟨oa, hoa⟩ : ∃ o, lj true m ts k = o := ⟨_, rfl⟩
        obtain ⟨ob, hob⟩ : ∃ o, lj false m us k = o := ⟨_, rfl⟩
        have la := lj_lt (b := true) (show 0 < m by omega) ts k
        have lb := lj_lt (b := false) (show 0 < m by omega) us k
        rw [hoa] at la
        rw [hob] at lb
        have HVP := Lib.hid (And.intro hv hp)
        have HVP' := Lib.hid (And.intro hv' hp')
        have HOA := Lib.hid hoa
        have HOB := Lib.hid hob
        have bdA := HA.out k hlk
        have bdB := HB.out k hlk
        have hS : Hid (lbs m ts us (k + 1) = lbs m ts us k ++ [oa, ob]) := by show _ = _; rw [← hoa, ← hob]; rfl
        have HNO : Hid (¬ (lbs m ts us k ++ [oa, ob]).Nodup → vpas ts us = false) := fun h => by
          rw [HV.out, decide_eq_false_iff_not]
          intro h'
          have := List.Nodup.sublist (lbs_sub m ts us (show k + 1 ≤ m by omega)) h'
          rw [hS.out] at this
          exact h this
        obtain ⟨b1, off1, hA, hb1, hcell1⟩ := (hI.ext hxr).at_ (by omega)
        subst hA
        obtain ⟨c0, c1⟩ := hcell1 k hlk
        rw [hv] at c0 bdA
        rw [hp] at c1
        have r0 := hxr.cell hlt p0
        rw [hv'] at bdB
        clear hcell1 hv hp hv' hp' hoa hob
        go_wp2_with fail
        (with_reducible refine (l06Land_is true 0 rfl v p ts k m oa _ HVP.out.1 HVP.out.2 bdA ⟨g1, g2⟩ hlk HOA.out).mono ?_)
        rintro e w2 ⟨rfl, hx2⟩
        have hE2 : Ext w w2 := hxr.trans hx2
        obtain ⟨b2, off2, hB, hb2, hcell2⟩ := (hJ.ext hE2).at_ (by omega)
        subst hB
        obtain ⟨d0, d1⟩ := hcell2 k hlk
        rw [HVP'.out.1] at d0
        rw [HVP'.out.2] at d1
        have r1 := hE2.cell hlt p1
        clear hcell2
        go_wp2_with fail
        (with_reducible refine (l06Land_is false 1 rfl v' p' us k m ob _ HVP'.out.1 HVP'.out.2 bdB ⟨g1, g2⟩ hlk HOB.out).mono ?_)
        rintro e w3 ⟨rfl, hx3⟩
        have hE3 : Ext w w3 := hE2.trans hx3
        have hz2 := hx2.size
        have hz3 := hx3.size
        have hT3 : Tak w3 w.heap.size (2 * m) (lbs m ts us k) := (hTr.ext hx2 hbr).ext hx3 (by omega)
        obtain ⟨ca, fa⟩ := hT3 oa (by omega)
        obtain ⟨cb, fb⟩ := hT3 ob (by omega)
        have hb3 : w.heap.size < w3.heap.size := by omega
        clear hx2 hx3 hE2 hTr hz2 hz3 d0 d1 r1 c0 c1 r0 hxr
        have lai : (oa : Int) < 2 * m := by omega
        have lbi : (ob : Int) < 2 * m := by omega
        cases hma : decide (oa ∈ lbs m ts us k)
        · rw [hma] at ca
          by_cases hab : oa = ob
          · have HF : Hid (vpas ts us = false) := HNO.out (by subst hab; intro h; rw [List.nodup_append] at h; simp at h)
            have habi : (oa : Int) = ob := by omega
            subst hab
            clear hma hNr hT3
            go_wp2
            go_ret
            exact ⟨ret_bool HF.out.symm, (by with_reducible (repeat (first | exact Ext.refl _ | apply Ext.drewN | apply Ext.drew | apply Ext.alloc | (refine Ext.set ?_ (by first | (simp; done) | (simp; omega) | omega) _) | (refine Ext.trans ?_ (by assumption)))))⟩
          · have habi : ¬ (oa : Int) = ob := by omega
            cases hmb : decide (ob ∈ lbs m ts us k)
            · rw [hmb] at cb
              have na : oa ∉ lbs m ts us k := of_decide_eq_false hma
              have nb : ob ∉ lbs m ts us k := of_decide_eq_false hmb
              have HN : Hid ((lbs m ts us (k + 1)).Nodup) := by
                show List.Nodup _
                rw [hS.out, List.nodup_append]
                refine ⟨hNr, by simp [hab], fun a ha c hc => ?_⟩
                simp at hc
                rcases hc with rfl | rfl
                · rintro rfl; exact na ha
                · rintro rfl; exact nb ha
              have HT3 : Hid (Tak ((w3.setCell ⟨w.heap.size, oa, none⟩ (.bool true)).setCell ⟨w.heap.size, ob, none⟩ (.bool true)) w.heap.size (2 * m) (lbs m ts us (k + 1))) := by
                show Tak _ _ _ _
                rw [hS.out, show lbs m ts us k ++ [oa, ob] = (lbs m ts us k ++ [oa]) ++ [ob] by simp]
                exact (hT3.set la).set lb
              clear hma hmb na nb hNr hT3
              go_wp2
              go_roundw
              case rel => exact ⟨k + 1, by omega, by go_num, (hE3.set (Nat.le_refl _) _).set (Nat.le_refl _) _, by simpa [World.setCell] using hb3, HT3.out, HN.out⟩
              case measure => simp [intOf]; omega
            · rw [hmb] at cb
              have HF : Hid (vpas ts us = false) := HNO.out (by intro h; rw [show lbs m ts us k ++ [oa, ob] = (lbs m ts us k ++ [oa]) ++ ob :: [] by simp] at h; exact nodup_no (by have := of_decide_eq_true hmb; simp [this]) h)
              clear hma hmb hNr hT3
              go_wp2
              go_ret
              exact ⟨ret_bool HF.out.symm, (by with_reducible (repeat (first | exact Ext.refl _ | apply Ext.drewN | apply Ext.drew | apply Ext.alloc | (refine Ext.set ?_ (by first | (simp; done) | (simp; omega) | omega) _) | (refine Ext.trans ?_ (by assumption)))))⟩
        · rw [hma] at ca
          have HF : Hid (vpas ts us = false) := HNO.out (nodup_no (of_decide_eq_true hma))
          clear hma hNr hT3
          go_wp2
          go_ret
          exact ⟨ret_bool HF.out.symm, (by with_reducible (repeat (first | exact Ext.refl _ | apply Ext.drewN | apply Ext.drew | apply Ext.alloc | (refine Ext.set ?_ (by first | (simp; done) | (simp; omega) | omega) _) | (refine Ext.trans ?_ (by assumption)))))⟩
      · obtain rfl : k = m := by omega
        have HF : Hid (vpas ts us = true) := by show _ = _; rw [HV.out]; simpa using hNr
        clear hTr hNr
        go_wp2
        go_ret
        exact ⟨ret_bool HF.out.symm, (by with_reducible (repeat (first | exact Ext.refl _ | apply Ext.drewN | apply Ext.drew | apply Ext.alloc | (refine Ext.set ?_ (by first | (simp; done) | (simp; omega) | omega) _) | (refine Ext.trans ?_ (by assumption)))))⟩
theorem l06Ok_os (g fo : Nat) (A B : Option Addr) (n c m d : Nat) (ts us : List (Int × Bool)) (v : Bool) (hv : vpas ts us = v) (w : World) (hb : PBoxO w g fo A n c B m d) (hI : Thr w A n ts) (hJ : Thr w B m us) :
    Calls Tryz.prog 69 #[.pointer (some ⟨g, fo, none⟩)] w fun e w' => e = .returned (.bool v) ∧ Ext w w' := by
  subst hv
  exact l06Ok_o g fo A B n c m d ts us w hb hI hJ
end Go.Proofs.YtbihbhdaenhdoaaGreat
