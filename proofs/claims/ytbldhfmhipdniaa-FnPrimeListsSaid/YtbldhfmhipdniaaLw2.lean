/- The reference's search for patterns: (*l12S).walk, its last beat. No condition but the stated bounds. -/
import Derived.Test.YtbldhfmhipdniaaLwk
import Derived.Deep.CutRange
namespace Go.Proofs.Ytbldhfmhipdniaa
set_option linter.unusedVariables false
set_option linter.unusedSimpArgs false
open Go.ChangeShapes Go.WideShapes Go.ChangeAt Go.RowKit Go.Joins Go.Deep

set_option maxHeartbeats 4000000 in
set_option maxRecDepth 100000 in
theorem walk12_last (n h : Nat) (hn : 1 ≤ n ∧ n ≤ 6) (hh : h ≤ 15) (w0 w : World) (g ub : Nat) (U : Nat → Bool) (pre : List Int) (l : Int) (out : List (List Int)) (hpl : pre.length = n) (hpb : ∀ y ∈ pre, 0 ≤ y ∧ y ≤ 15) (hl : 0 ≤ l ∧ l ≤ 1000) (hol : out.length ≤ 3000) (hS : L12 w0 w g ub n h U pre l out false) :
    Calls Try.prog 53 #[.pointer (some ⟨g, 0, none⟩), .int .i64 n] w fun e w' => e = .returned (.tuple #[]) ∧ L12 w0 w' g ub n h U pre l ((out ++ srch n h 0 U pre l).take 3000) (decide (3000 < (out ++ srch n h 0 U pre l).length)) := by
  obtain ⟨At, ct, Ao, co, hst, hC⟩ := hS
  have HST := Lib.hid hst
  have HC := Lib.hid hC
  obtain ⟨q0, q1, q2, q3, q4, q5, q6, qf⟩ := hC
  have f5 := qf 5
  have f6 := qf 6
  have HTI : Hid (Ints w At pre.length pre) := by
    have := hst.thr.ints (by omega) (fun y hy => by have := hpb y hy; omega)
    rwa [Nat.mul_one] at this
  have HNG : Hid (some g ≠ Ao.map (·.block)) := fun e => by
    obtain ⟨H, hF, h1, h2⟩ := hst.outs
    exact (h2 g e.symm).1 rfl
  clear hst
  have HPL := Lib.hid hpl
  have hp6 : pre.length ≤ 6 := by omega
  clear hpl
  go_enter Try.func53, Try.ntmps53
  by_cases hl0 : l = 0
  · subst hl0
    have e1 : srch n h 0 U pre 0 = [pre] := rfl
    by_cases h3 : out.length = 3000
    · have e2 : (out ++ srch n h 0 U pre 0).take 3000 = out := by rw [e1, List.take_append_of_le_length (by omega), List.take_of_length_le (by omega)]
      have e3 : decide (3000 < (out ++ srch n h 0 U pre 0).length) = true := decide_eq_true (by rw [e1]; simp; omega)
      rw [e2, e3]
      have i3 : (3000 : Int) ≤ out.length := by omega
      have HF : Hid (L12 w0 (w.setCell ⟨g, 6, none⟩ (.bool true)) g ub n h U pre 0 out true) := ⟨At, ct, Ao, co, HST.out.cell 6 _, ⟨by go_simp, by go_simp, by go_simp, by go_simp, by go_simp, by go_simp, by go_simp, fun o => by go_simp⟩⟩
      clear e1 e2 e3 qf
      go_wp2
      (try simp only [Exit.inBlock, Exit.then])
      refine bodyPost_ret (results_none rfl _ _ _) rfl ?_
      exact ⟨rfl, HF.out⟩
    · have e2 : (out ++ srch n h 0 U pre 0).take 3000 = out ++ [pre] := by rw [e1]; exact List.take_of_length_le (by simp; omega)
      have e3 : decide (3000 < (out ++ srch n h 0 U pre 0).length) = false := decide_eq_false (by rw [e1]; simp; omega)
      rw [e2, e3]
      have i3 : ¬ (3000 : Int) ≤ out.length := by omega
      clear e1 e2 e3 qf
      go_upto_region 4 with fail
      refine wp_region_late 12 3 8 (Holds [(⟨g, 4, none⟩, .slice At pre.length ct), (⟨g, 5, none⟩, .slice Ao out.length co)]) rfl (by kernel_rfl) (by kernel_rfl) (by (simp only [Holds_cons, Holds_nil, and_true]); exact ⟨q4, q5⟩) (fun hHeld => ?_)
      refine wpAnyH_take (i := 0) (v := ?_) rfl (by kernel_rfl) (by kernel_rfl) (by kernel_rfl) (fun _ _ _ h => h) (Or.inl ⟨by rfl, ?hyh1⟩) hHeld ?_
      case hyh1 => ((intro wz hSw); (simp only [Holds_cons, Holds_nil, and_true] at hSw); (obtain ⟨_, _⟩ := hSw); go_simp; (try with_reducible rfl))
      (try simp only [List.getElem_toArray, List.getElem_cons_succ, List.getElem_cons_zero, Act.put, List.setIfInBounds_toArray, List.set_cons_zero, List.set_cons_succ])
      refine wpAnyH_take (i := 1) (v := ?_) rfl (by kernel_rfl) (by kernel_rfl) (by kernel_rfl) (fun _ _ _ h => h) (Or.inl ⟨by rfl, ?hyh2⟩) hHeld ?_
      case hyh2 => ((intro wz hSw); (simp only [Holds_cons, Holds_nil, and_true] at hSw); (obtain ⟨_, _⟩ := hSw); go_simp; (try with_reducible rfl))
      (try simp only [List.getElem_toArray, List.getElem_cons_succ, List.getElem_cons_zero, Act.put, List.setIfInBounds_toArray, List.set_cons_zero, List.set_cons_succ])
      refine wpAnyH_take (i := 2) (v := ?_) rfl (by kernel_rfl) (by kernel_rfl) (by kernel_rfl) (fun _ _ _ h => h) (Or.inl ⟨by rfl, ?hyh3⟩) hHeld ?_
      case hyh3 => ((intro wz hSw); (simp only [Holds_cons, Holds_nil, and_true] at hSw); (obtain ⟨_, _⟩ := hSw); go_simp; (try with_reducible rfl))
      (try simp only [List.getElem_toArray, List.getElem_cons_succ, List.getElem_cons_zero, Act.put, List.setIfInBounds_toArray, List.set_cons_zero, List.set_cons_succ])
      refine wpAnyH_take (i := 3) (v := ?_) rfl (by kernel_rfl) (by kernel_rfl) (by kernel_rfl) (fun _ _ _ h => h) (Or.inl ⟨by rfl, ?hyh4⟩) hHeld ?_
      case hyh4 => ((intro wz hSw); (simp only [Holds_cons, Holds_nil, and_true] at hSw); (obtain ⟨_, _⟩ := hSw); go_simp; (try with_reducible rfl))
      (try simp only [List.getElem_toArray, List.getElem_cons_succ, List.getElem_cons_zero, Act.put, List.setIfInBounds_toArray, List.set_cons_zero, List.set_cons_succ])
      refine wpAnyH_take (i := 4) (v := ?_) rfl (by kernel_rfl) (by kernel_rfl) (by kernel_rfl) (fun _ _ _ h => h) (Or.inl ⟨by rfl, ?hyh5⟩) hHeld ?_
      case hyh5 => ((intro wz hSw); (simp only [Holds_cons, Holds_nil, and_true] at hSw); (obtain ⟨_, _⟩ := hSw); go_simp; (try with_reducible rfl))
      (try simp only [List.getElem_toArray, List.getElem_cons_succ, List.getElem_cons_zero, Act.put, List.setIfInBounds_toArray, List.set_cons_zero, List.set_cons_succ])
      refine wpAnyH_take (i := 5) (v := ?_) rfl (by kernel_rfl) (by kernel_rfl) (by kernel_rfl) (fun _ _ _ h => h) (Or.inl ⟨by rfl, ?hyh6⟩) hHeld ?_
      case hyh6 => ((intro wz hSw); (simp only [Holds_cons, Holds_nil, and_true] at hSw); (obtain ⟨_, _⟩ := hSw); go_simp; (try with_reducible rfl))
      (try simp only [List.getElem_toArray, List.getElem_cons_succ, List.getElem_cons_zero, Act.put, List.setIfInBounds_toArray, List.set_cons_zero, List.set_cons_succ])
      refine wpAnyH_take (i := 6) (v := ?_) rfl (by kernel_rfl) (by kernel_rfl) (by kernel_rfl) (fun _ _ _ h => h) (Or.inl ⟨by rfl, ?hyh7⟩) hHeld ?_
      case hyh7 => ((intro wz hSw); (simp only [Holds_cons, Holds_nil, and_true] at hSw); (obtain ⟨_, _⟩ := hSw); go_simp; (try with_reducible rfl))
      (try simp only [List.getElem_toArray, List.getElem_cons_succ, List.getElem_cons_zero, Act.put, List.setIfInBounds_toArray, List.set_cons_zero, List.set_cons_succ])
      refine wpAnyH_take (i := 7) (v := ?_) rfl (by kernel_rfl) (by kernel_rfl) (by kernel_rfl) (fun _ _ _ h => h) (Or.inl ⟨by rfl, ?hyh8⟩) hHeld ?_
      case hyh8 => ((intro wz hSw); (simp only [Holds_cons, Holds_nil, and_true] at hSw); (obtain ⟨_, _⟩ := hSw); go_simp; (try with_reducible rfl))
      (try simp only [List.getElem_toArray, List.getElem_cons_succ, List.getElem_cons_zero, Act.put, List.setIfInBounds_toArray, List.set_cons_zero, List.set_cons_succ])
      refine wpAnyH_take (i := 8) (v := ?_) rfl (by kernel_rfl) (by kernel_rfl) (by kernel_rfl) (fun _ _ _ h => h) (Or.inl ⟨by rfl, ?hyh9⟩) hHeld ?_
      case hyh9 => ((intro wz hSw); (simp only [Holds_cons, Holds_nil, and_true] at hSw); (obtain ⟨_, _⟩ := hSw); go_simp; (try with_reducible rfl))
      (try simp only [List.getElem_toArray, List.getElem_cons_succ, List.getElem_cons_zero, Act.put, List.setIfInBounds_toArray, List.set_cons_zero, List.set_cons_succ])
      refine wpAnyH_ready (rs := [9]) (by kernel_rfl) (by simp) ?_
      refine AllReadyH.cons rfl (fun K hK => ?_) AllReadyH.nil
      go_simp
      (with_reducible refine (l00Own_any At pre.length ct pre w.drew (HTI.out.ext ((Ext.refl w).drew)) (by omega)).mono ?_)
      rintro e w2 ⟨A2, c2, rfl, O2⟩
      (try go_wp2_with fail)
      have hx2 : Ext w w2 := (show Ext w w.drew from (Ext.refl _).drew).trans O2.ext
      have R2 : Row w2 w.heap.size w2.heap.size 2 1 A2 pre.length c2 pre := ⟨O2.own, fun a ha => (World.ownsRow.lt O2.own a.block (by rw [ha]; rfl)).2⟩
      refine hK.out _ _ (fun c hc => (Below.cell hx2 (World.block_lt_of_cell? _ c.1 (hHeld c hc))).trans (hHeld c hc)) (fun hHeldN => ?_)
      clear hK K hHeld
      have hHeld := hHeldN
      clear hHeldN
      (try simp only [List.getElem_toArray, List.getElem_cons_succ, List.getElem_cons_zero, Act.put, List.setIfInBounds_toArray, List.set_cons_zero, List.set_cons_succ])
      refine wpAnyH_ready (rs := [10]) (by kernel_rfl) (by simp) ?_
      refine AllReadyH.cons rfl (fun K hK => ?_) AllReadyH.nil
      go_simp
      refine hK.out _ _ (Holds.alloc hHeld _) (fun hHeldN => ?_)
      clear hK K hHeld
      have hHeld := hHeldN
      clear hHeldN
      (try simp only [List.getElem_toArray, List.getElem_cons_succ, List.getElem_cons_zero, Act.put, List.setIfInBounds_toArray, List.set_cons_zero, List.set_cons_succ])
      refine wpAnyH_ready (rs := [11]) (by kernel_rfl) (by simp) ?_
      refine AllReadyH.cons rfl (fun K hK => ?_) AllReadyH.nil
      have hpa : Ext w2 (w2.alloc (.cells #[.slice A2 pre.length c2] 30)) := (Ext.refl _).alloc _
      refine stepLL (by rfl) _ _ (by rfl) (by rfl) HST.out (hx2.trans hpa) (by omega) (by rfl) (heap_alloc_new _ _) (by rfl) (R2.ext hpa) rfl (Nat.le_refl _) (by simp) ?_
      intro A5 c5 w5 S5 hg5
      have hbk : w5.heap[g]? = w.heap[g]? := (hg5.block g (by have := HST.out.gl; have := hx2.size; simp; omega) HNG.out).trans (Below.block (hx2.trans hpa) g HST.out.gl.2)
      have rf5 := (HC.out.keep hbk).fz 5
      have rc5 := (HC.out.keep hbk).c5
      have hKeep : Holds [(⟨g, 4, none⟩, .slice At pre.length ct), (⟨g, 5, none⟩, .slice Ao out.length co)] w5 := by (simp only [Holds_cons, Holds_nil, and_true]; exact ⟨(World.cell?_of_block hbk).trans q4, (World.cell?_of_block hbk).trans q5⟩)
      refine hK.out _ _ (hKeep) (fun hHeldN => ?_)
      clear hK K hHeld
      have hHeld := hHeldN
      clear hHeldN
      (try simp only [List.getElem_toArray, List.getElem_cons_succ, List.getElem_cons_zero, Act.put, List.setIfInBounds_toArray, List.set_cons_zero, List.set_cons_succ])
      refine wpAnyH_done (by kernel_rfl) ?_ _
      refine LateQ.normal ?_
      refine wpAny_take (i := 12) (v := ?_) rfl (by kernel_rfl) (by kernel_rfl) (by kernel_rfl) (fun _ _ _ h => h) (Or.inl ⟨by rfl, ?hyh10⟩) ?_
      case hyh10 => ((intro wz); go_simp; (try with_reducible rfl))
      (try simp only [List.getElem_toArray, List.getElem_cons_succ, List.getElem_cons_zero, Act.put, List.setIfInBounds_toArray, List.set_cons_zero, List.set_cons_succ])
      refine wpAny_take (i := 13) (v := ?_) rfl (by kernel_rfl) (by kernel_rfl) (by kernel_rfl) (fun _ _ _ h => h) (Or.inl ⟨by rfl, ?hyh11⟩) ?_
      case hyh11 => ((intro wz); go_simp; (try with_reducible rfl))
      (try simp only [List.getElem_toArray, List.getElem_cons_succ, List.getElem_cons_zero, Act.put, List.setIfInBounds_toArray, List.set_cons_zero, List.set_cons_succ])
      refine wpAny_ready (rs := [14]) (by kernel_rfl) (by simp) ?_
      refine AllReady.cons rfl (fun K hK => ?_) AllReady.nil
      go_simp
      (try (refine hK _ _ ?_; clear hK K))
      (try simp only [List.getElem_toArray, List.getElem_cons_succ, List.getElem_cons_zero, Act.put, List.setIfInBounds_toArray, List.set_cons_zero, List.set_cons_succ])
      refine wpAny_done (by kernel_rfl) ?_ _
      have C5 := HC.out.keep hbk
      obtain ⟨r0, r1, r2, r3, r4, r5, r6, rf⟩ := C5
      have HF : Hid (L12 w0 (w5.setCell ⟨g, 5, none⟩ (.slice A5 (out.length + 1) c5)) g ub n h U pre 0 (out ++ [pre]) false) := ⟨At, ct, A5, c5, S5.cell 5 _, ⟨by go_simp, by go_simp, by go_simp, by go_simp, by go_simp, by rw [List.length_append]; go_simp, by go_simp, fun o => by go_simp⟩⟩
      have h5 := rf 5
      clear S5 hg5 hHeld hpa O2 hx2 R2 q0 q1 q2 q3 q6
      go_wp2
      (try simp only [Exit.inBlock, Exit.then])
      refine bodyPost_ret (results_none rfl _ _ _) rfl ?_
      exact ⟨rfl, HF.out⟩
  · have e1 : srch n h 0 U pre l = [] := if_neg hl0
    have e2 : (out ++ srch n h 0 U pre l).take 3000 = out := by rw [e1, List.append_nil, List.take_of_length_le hol]
    have e3 : decide (3000 < (out ++ srch n h 0 U pre l).length) = false := decide_eq_false (by rw [e1, List.append_nil]; omega)
    rw [e2, e3]
    have HF : Hid (L12 w0 w g ub n h U pre l out false) := ⟨At, ct, Ao, co, HST.out, HC.out⟩
    clear e1 e2 e3 qf
    go_wp2
    (try simp only [Exit.inBlock, Exit.then])
    refine bodyPost_ret (results_none rfl _ _ _) rfl ?_
    exact ⟨rfl, HF.out⟩
end Go.Proofs.Ytbldhfmhipdniaa
