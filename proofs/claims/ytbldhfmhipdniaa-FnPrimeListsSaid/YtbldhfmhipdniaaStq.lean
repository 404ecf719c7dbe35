/- The program's search for patterns: (*search).step, its last beat. No condition but the stated bounds. -/
import Derived.Test.YtbldhfmhipdniaaStp
import Derived.Deep.CutRange
import Derived.Deep.QuietTactic
import Derived.BigQuiet
namespace Go.Proofs.Ytbldhfmhipdniaa
set_option linter.unusedVariables false
set_option linter.unusedSimpArgs false
open Go.ChangeShapes Go.WideShapes Go.ChangeAt Go.RowKit Go.Joins Go.Deep

set_option maxHeartbeats 4000000 in
set_option maxRecDepth 100000 in
theorem step58_last (kf n h : Nat) (F : List (List Int) → List Int → List (List Int) × Bool) (Ok : Nat → List (List Int) → Prop) (hc : Clo kf n F Ok) (hent : ∀ (args : Array Value) (w : World), (callFunc kf args).run Try.prog w = .ok (.enter kf args) w) (hn : 1 ≤ n ∧ n ≤ 6) (hh : h ≤ 15) (w0 w : World) (g q ub : Nat) (U : Nat → Bool) (pre : List Int) (l : Int) (out : List (List Int)) (hpl : pre.length = n) (hpb : ∀ y ∈ pre, 0 ≤ y ∧ y ≤ 15) (hl : 0 ≤ l ∧ l ≤ 1000) (hok : Ok (srch n h 0 U pre l).length out) (hS : S58 w0 w g q ub n h (.func (.func kf) #[] #[.pointer (some ⟨q, 0, none⟩)]) U pre out) :
    Calls Try.prog 58 #[.pointer (some ⟨g, 0, none⟩), .int .i64 l] w (Stp w0 g q ub n h (.func (.func kf) #[] #[.pointer (some ⟨q, 0, none⟩)]) U pre (runF F (srch n h 0 U pre l) out)) := by
  subst hpl
  obtain ⟨At, ct, hat⟩ := hS
  have HST := Lib.hid hat
  obtain ⟨Ao, co, hst, hC, hq, hgq⟩ := hat
  obtain ⟨q0, q1, q2, q3, q4, qf⟩ := hC
  have HTI : Hid (Ints w At pre.length pre) := by
    have := hst.thr.ints (by omega) (fun y hy => by have := hpb y hy; omega)
    rwa [Nat.mul_one] at this
  have hgl := (hst.gl g (by simp)).2
  have HPB := Lib.hid hpb
  unfold Clo at hc
  have HCLO := Lib.hid hc
  clear hst hq hpb hc qf
  by_cases hl0 : l = 0
  · subst hl0
    have HE : Hid (runF F (srch pre.length h 0 U pre 0) out = F out pre) := runF_one pre out
    have HOK : Hid (Ok 1 out) := hok
    clear hok
    go_enter Try.func58, Try.ntmps58
    go_upto_region 3 with fail
    refine wp_region_held_drew (S := Holds [(⟨g, 2, none⟩, .slice At pre.length ct), (⟨g, 4, none⟩, .func (.func kf) #[] #[.pointer (some ⟨q, 0, none⟩)])]) (by kernel_rfl) (by (simp only [Holds_cons, Holds_nil, and_true]); exact ⟨q2, q4⟩) (fun hHeld => ?_)
    refine wpAnyH_take (i := 0) (v := ?_) rfl (by kernel_rfl) (by kernel_rfl) (by kernel_rfl) (fun _ _ _ h => h) (Or.inl ⟨by rfl, ?hyh1⟩) hHeld ?_
    case hyh1 => ((intro wz hSw); (simp only [Holds_cons, Holds_nil, and_true] at hSw); (obtain ⟨_, _⟩ := hSw); go_simp; (try with_reducible rfl))
    (try simp only [List.getElem_toArray, List.getElem_cons_succ, List.getElem_cons_zero, Act.put, List.setIfInBounds_toArray, List.set_cons_zero, List.set_cons_succ])
    refine wpAnyH_take (i := 1) (v := ?_) rfl (by kernel_rfl) (by kernel_rfl) (by kernel_rfl) (fun _ _ _ h => h) (Or.inl ⟨by rfl, ?hyh2⟩) hHeld ?_
    case hyh2 => ((intro wz hSw); (simp only [Holds_cons, Holds_nil, and_true] at hSw); (obtain ⟨_, _⟩ := hSw); go_simp; (try with_reducible rfl))
    (try simp only [List.getElem_toArray, List.getElem_cons_succ, List.getElem_cons_zero, Act.put, List.setIfInBounds_toArray, List.set_cons_zero, List.set_cons_succ])
    refine wpAnyH_take (i := 2) (v := ?_) rfl (by kernel_rfl) (by kernel_rfl) (by kernel_rfl) (fun _ _ _ h => h) (Or.inl ⟨by rfl, ?hyh3⟩) hHeld ?_
    case hyh3 => ((intro wz hSw); (simp only [Holds_cons, Holds_nil, and_true] at hSw); (obtain ⟨_, _⟩ := hSw); go_simp; (try with_reducible rfl))
    (try simp only [List.getElem_toArray, List.getElem_cons_succ, List.getElem_cons_zero, Act.put, List.setIfInBounds_toArray, List.set_cons_zero, List.set_cons_succ])
    refine wpAnyH_take (i := 3) (v := ?_) rfl (by kernel_rfl) (by kernel_rfl) (by kernel_rfl) (fun _ _ _ h => h) (Or.inl ⟨by rfl, ?hyh4⟩) hHeld ?_
    case hyh4 => ((intro wz hSw); (simp only [Holds_cons, Holds_nil, and_true] at hSw); (obtain ⟨_, _⟩ := hSw); go_simp; (try with_reducible rfl))
    (try simp only [List.getElem_toArray, List.getElem_cons_succ, List.getElem_cons_zero, Act.put, List.setIfInBounds_toArray, List.set_cons_zero, List.set_cons_succ])
    refine wpAnyH_take (i := 4) (v := ?_) rfl (by kernel_rfl) (by kernel_rfl) (by kernel_rfl) (fun _ _ _ h => h) (Or.inl ⟨by rfl, ?hyh5⟩) hHeld ?_
    case hyh5 => ((intro wz hSw); (simp only [Holds_cons, Holds_nil, and_true] at hSw); (obtain ⟨_, _⟩ := hSw); go_simp; (try with_reducible rfl))
    (try simp only [List.getElem_toArray, List.getElem_cons_succ, List.getElem_cons_zero, Act.put, List.setIfInBounds_toArray, List.set_cons_zero, List.set_cons_succ])
    refine wpAnyH_take (i := 5) (v := ?_) rfl (by kernel_rfl) (by kernel_rfl) (by kernel_rfl) (fun _ _ _ h => h) (Or.inl ⟨by rfl, ?hyh6⟩) hHeld ?_
    case hyh6 => ((intro wz hSw); (simp only [Holds_cons, Holds_nil, and_true] at hSw); (obtain ⟨_, _⟩ := hSw); go_simp; (try with_reducible rfl))
    (try simp only [List.getElem_toArray, List.getElem_cons_succ, List.getElem_cons_zero, Act.put, List.setIfInBounds_toArray, List.set_cons_zero, List.set_cons_succ])
    refine wpAnyH_take (i := 6) (v := ?_) rfl (by kernel_rfl) (by kernel_rfl) (by kernel_rfl) (fun _ _ _ h => h) (Or.inl ⟨by rfl, ?hyh7⟩) hHeld ?_
    case hyh7 => ((intro wz hSw); (simp only [Holds_cons, Holds_nil, and_true] at hSw); (obtain ⟨_, _⟩ := hSw); go_simp; (try with_reducible rfl))
    (try simp only [List.getElem_toArray, List.getElem_cons_succ, List.getElem_cons_zero, Act.put, List.setIfInBounds_toArray, List.set_cons_zero, List.set_cons_succ])
    refine wpAnyH_take (i := 7) (v := ?_) rfl (by kernel_rfl) (by kernel_rfl) (by kernel_rfl) (fun _ _ _ h => h) (Or.inl ⟨by rfl, ?hyh8⟩) hHeld ?_
    case hyh8 => ((intro wz hSw); (simp only [Holds_cons, Holds_nil, and_true] at hSw); (obtain ⟨_, _⟩ := hSw); go_simp; (try with_reducible rfl))
    (try simp only [List.getElem_toArray, List.getElem_cons_succ, List.getElem_cons_zero, Act.put, List.setIfInBounds_toArray, List.set_cons_zero, List.set_cons_succ])
    refine wpAnyH_take (i := 8) (v := ?_) rfl (by kernel_rfl) (by kernel_rfl) (by kernel_rfl) (fun _ _ _ h => h) (Or.inl ⟨by rfl, ?hyh9⟩) hHeld ?_
    case hyh9 => ((intro wz hSw); (simp only [Holds_cons, Holds_nil, and_true] at hSw); (obtain ⟨_, _⟩ := hSw); go_simp; (try with_reducible rfl))
    (try simp only [List.getElem_toArray, List.getElem_cons_succ, List.getElem_cons_zero, Act.put, List.setIfInBounds_toArray, List.set_cons_zero, List.set_cons_succ])
    refine wpAnyH_take (i := 9) (v := ?_) rfl (by kernel_rfl) (by kernel_rfl) (by kernel_rfl) (fun _ _ _ h => h) (Or.inl ⟨by rfl, ?hyh10⟩) hHeld ?_
    case hyh10 => ((intro wz hSw); (simp only [Holds_cons, Holds_nil, and_true] at hSw); (obtain ⟨_, _⟩ := hSw); go_simp; (try with_reducible rfl))
    (try simp only [List.getElem_toArray, List.getElem_cons_succ, List.getElem_cons_zero, Act.put, List.setIfInBounds_toArray, List.set_cons_zero, List.set_cons_succ])
    refine wpAnyH_take (i := 10) (v := ?_) rfl (by kernel_rfl) (by kernel_rfl) (by kernel_rfl) (fun _ _ _ h => h) (Or.inl ⟨by rfl, ?hyh11⟩) hHeld ?_
    case hyh11 => ((intro wz hSw); (simp only [Holds_cons, Holds_nil, and_true] at hSw); (obtain ⟨_, _⟩ := hSw); go_simp; (try with_reducible rfl))
    (try simp only [List.getElem_toArray, List.getElem_cons_succ, List.getElem_cons_zero, Act.put, List.setIfInBounds_toArray, List.set_cons_zero, List.set_cons_succ])
    refine wpAnyH_ready (rs := [11]) (by kernel_rfl) (by simp) ?_
    refine AllReadyH.cons rfl (fun K hK => ?_) AllReadyH.nil
    go_simp
    (with_reducible refine (copyNumbers_any At pre.length ct pre w.drew (HTI.out.ext ((Ext.refl w).drew)) (by omega)).mono ?_)
    rintro e w2 ⟨A2, c2, rfl, O2⟩
    (try go_wp2_with fail)
    have hx2 : Ext w w2 := (show Ext w w.drew from (Ext.refl _).drew).trans O2.ext
    have R2 : Row w2 w.heap.size w2.heap.size 2 1 A2 pre.length c2 pre := ⟨O2.own, fun a ha => (World.ownsRow.lt O2.own a.block (by rw [ha]; rfl)).2⟩
    refine hK.out _ _ (fun c hc => (Below.cell hx2 (World.block_lt_of_cell? _ c.1 (hHeld c hc))).trans (hHeld c hc)) (fun hHeldN => ?_)
    clear hK K hHeld
    have hHeld := hHeldN
    clear hHeldN
    (try simp only [List.getElem_toArray, List.getElem_cons_succ, List.getElem_cons_zero, Act.put, List.setIfInBounds_toArray, List.set_cons_zero, List.set_cons_succ])
    refine wpAnyH_ready (rs := [12]) (by kernel_rfl) (by simp) ?_
    refine AllReadyH.cons rfl (fun K hK => ?_) AllReadyH.nil
    go_simp
    (with_reducible refine (HCLO.out w0 w w2 g q ub h _ U At ct pre out A2 c2 w.heap.size w2.heap.size HST.out hx2 R2 (Nat.le_refl _) (Nat.le_refl _) rfl hn.2 HPB.out HOK.out).mono ?_)
    rintro e w5 ⟨rfl, S5, hbk⟩
    (try go_wp2_with fail)
    have hbk2 : w5.heap[g]? = w.heap[g]? := hbk.trans (Below.block hx2 g hgl)
    refine hK.out _ _ (by (simp only [Holds_cons, Holds_nil, and_true]); exact ⟨(World.cell?_of_block hbk2).trans q2, (World.cell?_of_block hbk2).trans q4⟩) (fun hHeldN => ?_)
    clear hK K hHeld
    have hHeld := hHeldN
    clear hHeldN
    (try simp only [List.getElem_toArray, List.getElem_cons_succ, List.getElem_cons_zero, Act.put, List.setIfInBounds_toArray, List.set_cons_zero, List.set_cons_succ])
    refine wpAnyH_take (i := 13) (v := ?_) rfl (by kernel_rfl) (by kernel_rfl) (by kernel_rfl) (fun _ _ _ h => h) (Or.inl ⟨by rfl, ?hyh12⟩) hHeld ?_
    case hyh12 => ((intro wz hSw); (simp only [Holds_cons, Holds_nil, and_true] at hSw); (obtain ⟨_, _⟩ := hSw); go_simp; (try with_reducible rfl))
    (try simp only [List.getElem_toArray, List.getElem_cons_succ, List.getElem_cons_zero, Act.put, List.setIfInBounds_toArray, List.set_cons_zero, List.set_cons_succ])
    refine wpAnyH_take (i := 14) (v := ?_) rfl (by kernel_rfl) (by kernel_rfl) (by kernel_rfl) (fun _ _ _ h => h) (Or.inl ⟨by rfl, ?hyh13⟩) hHeld ?_
    case hyh13 => ((intro wz hSw); (simp only [Holds_cons, Holds_nil, and_true] at hSw); (obtain ⟨_, _⟩ := hSw); go_simp; (try with_reducible rfl))
    (try simp only [List.getElem_toArray, List.getElem_cons_succ, List.getElem_cons_zero, Act.put, List.setIfInBounds_toArray, List.set_cons_zero, List.set_cons_succ])
    refine wpAnyH_done (by kernel_rfl) ?_ _
    have HF : Hid (Stp w0 g q ub pre.length h (.func (.func kf) #[] #[.pointer (some ⟨q, 0, none⟩)]) U pre (runF F (srch pre.length h 0 U pre 0) out) (.returned (.bool (F out pre).2)) w5) := by
      rw [HE.out]
      exact ⟨rfl, At, ct, S5⟩
    clear S5 hbk hbk2 hx2 R2 O2 hHeld
    go_wp2
    go_ret
    exact HF.out
  · have HF : Hid (∀ W, Ext w W → Stp w0 g q ub pre.length h (.func (.func kf) #[] #[.pointer (some ⟨q, 0, none⟩)]) U pre (runF F (srch pre.length h 0 U pre l) out) (.returned (.bool true)) W) := fun W k => by
      rw [show srch pre.length h 0 U pre l = [] from if_neg hl0]
      exact ⟨rfl, At, ct, HST.out.after k⟩
    have e1 : (l == 0) = false := by simpa using hl0
    have e2 : (l != 0) = true := by simpa using hl0
    clear hok hl0
    go_enter Try.func58, Try.ntmps58
    go_wp2
    go_quiet (fail)
    go_wp2
    go_ret
    exact HF.out _ (by with_reducible (repeat (first | exact Ext.refl _ | apply Ext.drewN | apply Ext.drew | apply Ext.alloc | (refine Ext.set ?_ (by first | (simp; done) | (simp; omega) | omega) _) | (refine Ext.trans ?_ (by assumption)))))
end Go.Proofs.Ytbldhfmhipdniaa
