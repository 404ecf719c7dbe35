/- The reference's search for patterns: (*l12S).walk, all beats. No condition but the stated bounds. -/
import Derived.Test.YtbldhfmhipdniaaLw2
import Derived.Deep.QuietTactic
import Derived.BigQuiet
namespace Go.Proofs.Ytbldhfmhipdniaa
set_option linter.unusedVariables false
set_option linter.unusedSimpArgs false
open Go.ChangeShapes Go.WideShapes Go.ChangeAt Go.RowKit Go.Joins Go.Deep

/-- What the search hands back. -/
def Wlk (w0 : World) (g ub n h : Nat) (U : Nat → Bool) (pre : List Int) (l : Int) (all : List (List Int)) (e : Ending) (w' : World) : Prop :=
  e = .returned (.tuple #[]) ∧ L12 w0 w' g ub n h U pre l (all.take 3000) (decide (3000 < all.length))
theorem heap_alloc_set2 (w : World) (p q : Addr) (u v : Value) (o : Obj) : (((w.setCell p u).setCell q v).alloc o).heap[w.heap.size]? = some o := by
  have h := heap_alloc_new ((w.setCell p u).setCell q v) o
  rwa [show ((w.setCell p u).setCell q v).heap.size = w.heap.size by simp [World.setCell]] at h
theorem L12.after {w0 w w' : World} {g ub n h : Nat} {U : Nat → Bool} {pre : List Int} {l : Int} {out : List (List Int)} {full : Bool} (s : L12 w0 w g ub n h U pre l out full) (k : Ext w w') : L12 w0 w' g ub n h U pre l out full := by
  obtain ⟨At, ct, Ao, co, hst, hC⟩ := s
  exact ⟨At, ct, Ao, co, hst.after k, hC.keep (Below.block k g hst.gl.2)⟩
set_option maxHeartbeats 8000000 in
set_option maxRecDepth 100000 in
theorem walk12_step (n h d : Nat) (hn : 1 ≤ n ∧ n ≤ 6) (hh : h ≤ 15)
    (IH : ∀ (w0 w : World) (g ub : Nat) (U : Nat → Bool) (pre : List Int) (l : Int) (out : List (List Int)) (b : Int), b = (n : Int) - d → pre.length + d = n → (∀ y ∈ pre, 0 ≤ y ∧ y ≤ 15) → (0 ≤ l ∧ l ≤ 1000) → out.length ≤ 3000 → L12 w0 w g ub n h U pre l out false →
      Calls Try.prog 53 #[.pointer (some ⟨g, 0, none⟩), .int .i64 b] w (Wlk w0 g ub n h U pre l (out ++ srch n h d U pre l)))
    (w0 w : World) (g ub : Nat) (U : Nat → Bool) (pre : List Int) (l : Int) (out : List (List Int)) (b : Int) (hb : b = (n : Int) - (d + 1 : Nat)) (hpl : pre.length + (d + 1) = n) (hpb : ∀ y ∈ pre, 0 ≤ y ∧ y ≤ 15) (hl : 0 ≤ l ∧ l ≤ 1000) (hol : out.length ≤ 3000) (hS : L12 w0 w g ub n h U pre l out false) :
    Calls Try.prog 53 #[.pointer (some ⟨g, 0, none⟩), .int .i64 b] w (Wlk w0 g ub n h U pre l (out ++ srch n h (d + 1) U pre l)) := by
  have hd6 : d + 1 ≤ 6 := by omega
  have hb0 : 0 ≤ b ∧ b ≤ 5 := by omega
  have hbn : (b == (n : Int)) = false := by simp; omega
  have HB := Lib.hid hb
  have HPL := Lib.hid hpl
  have HPB := Lib.hid hpb
  have HIH := Lib.hid IH
  clear hb hpl hpb IH
  have HS0 : Hid (L12 w0 w g ub n h U pre l ((out ++ spart n h d U pre l 0).take 3000) (decide (3000 < (out ++ spart n h d U pre l 0).length))) := by
    show L12 _ _ _ _ _ _ _ _ _ _ _
    rw [spart_zero, List.append_nil, List.take_of_length_le hol, decide_eq_false (by omega)]
    exact hS
  obtain ⟨At0, ct0, Ao0, co0, hst0, hC0⟩ := hS
  have q0 := hC0.c0
  clear hst0 hC0
  go_enter Try.func53, Try.ntmps53
  go_wp2
  clear q0
  go_loopw [4] (fun i wr => ∃ t : Nat, t ≤ h + 1 ∧ i = .int .i64 t ∧ Hid (L12 w0 wr g ub n h U pre l ((out ++ spart n h d U pre l t).take 3000) (decide (3000 < (out ++ spart n h d U pre l t).length)))) (fun i _ => h + 1 - (intOf i).toNat)
  case atStart => exact ⟨0, by omega, rfl, HS0⟩
  case round =>
    obtain ⟨t, ht, rfl, HL⟩ := hrel
    obtain ⟨At, ct, Ao, co, hst, hC⟩ := HL.out
    have HST := Lib.hid hst
    have HC := Lib.hid hC
    obtain ⟨q0, q1, q2, q3, q4, q5, q6, qf⟩ := hC
    have hub := hst.used.row_bd ub rfl
    have hgu := hst.ne
    clear hst HS0
    by_cases hth : t ≤ h
    · have i1 : (t : Int) ≤ h := by omega
      by_cases htl : (t : Int) ≤ l
      · obtain ⟨f, hf⟩ : ∃ f, decide (3000 < (out ++ spart n h d U pre l t).length) = f := ⟨_, rfl⟩
        rw [hf] at q6
        cases f
        · -- a round
          have hlen : (out ++ spart n h d U pre l t).length ≤ 3000 := by
            have := of_decide_eq_false hf
            omega
          have hS1 : L12 w0 wr g ub n h U pre l (out ++ spart n h d U pre l t) false := by
            have := HL.out
            rwa [hf, List.take_of_length_le hlen] at this
          have HS1 := Lib.hid hS1
          clear q0 q1 q2 q3 q4 q5 q6 qf HST HC HL hub hgu hf At ct Ao co
          obtain ⟨At, ct, Ao, co, hst, hC⟩ := hS1
          have HST := Lib.hid hst
          have HC := Lib.hid hC
          obtain ⟨q0, q1, q2, q3, q4, q5, q6, qf⟩ := hC
          obtain ⟨j, hj⟩ : ∃ j : Nat, (n - (d + 1) + t) % n = j := ⟨_, rfl⟩
          have hjn : j < n := by rw [← hj]; exact Nat.mod_lt _ (by omega)
          have hB := HB.out
          have hP := HPL.out
          have hmod : Int.tmod (b + t) n = (j : Int) := by
            rw [show b + (t : Int) = ((n - (d + 1) + t : Nat) : Int) by omega, ← hj]
            rfl
          have hj0 : (0 : Int) ≤ j := by omega
          have hj1 : (j : Int) < n := by omega
          have hn0 : ¬ (n : Int) = 0 := by omega
          obtain ⟨u0, u1⟩ := hst.used.cellAt (p := j) (by omega)
          rw [usd_get U hjn] at u0
          have hdh : d * h ≤ 5 * 15 := Nat.mul_le_mul (by omega) hh
          obtain ⟨dh, hdh2⟩ : ∃ dh : Nat, d * h = dh := ⟨_, rfl⟩
          have hdi : (d : Int) * h = dh := by rw [← hdh2]; exact (Int.natCast_mul d h).symm
          rw [hdh2] at hdh
          have hnb : (n : Int) - b - 1 = d := by omega
          have w1 : IntKind.i64.wrap (b + t) = b + t := IntWalk.i64_in _ (by omega)
          have w2 : IntKind.i64.wrap (l - t) = l - t := IntWalk.i64_in _ (by omega)
          have w3 : IntKind.i64.wrap ((n : Int) - b) = n - b := IntWalk.i64_in _ (by omega)
          have w4 : IntKind.i64.wrap ((n : Int) - b - 1) = d := by rw [hnb]; exact IntWalk.i64_in _ (by omega)
          have w5 : IntKind.i64.wrap ((d : Int) * h) = dh := by rw [hdi]; exact IntWalk.i64_in _ (by omega)
          have HMEM := Lib.hid hst
          clear hst hB hP qf
          cases hu : U j
          · rw [hu] at u0
            by_cases hbig : (dh : Int) < l - t
            · have HN : Hid (∀ W, Ext wr W → L12 w0 W g ub n h U pre l ((out ++ spart n h d U pre l (t + 1)).take 3000) (decide (3000 < (out ++ spart n h d U pre l (t + 1)).length))) := fun W k => by
                rw [spart_succ, sarm_no (by rw [hdi]; omega), List.append_nil, List.take_of_length_le hlen, decide_eq_false (by omega)]
                exact HS1.out.after k
              have g1 : decide ((dh : Int) < l - t) = true := decide_eq_true hbig
              clear hlen hj
              go_wp2
              go_quiet (fail)
              go_wp2
              go_roundw
              case rel => exact ⟨t + 1, by omega, by go_num, HN.out _ (by with_reducible (repeat (first | exact Ext.refl _ | apply Ext.drewN | apply Ext.drew | apply Ext.alloc | (refine Ext.set ?_ (by first | (simp; done) | (simp; omega) | omega) _) | (refine Ext.trans ?_ (by assumption)))))⟩
              case measure => simp [intOf]; omega
            · have g1 : decide ((dh : Int) < l - t) = false := decide_eq_false hbig
              have hgn := HST.out.ne
              have hgn2 : ¬ ub = g := fun e => hgn e.symm
              have HTN : Hid (some g ≠ At.map (·.block)) := fun e => (HST.out.thn g e.symm).1 rfl
              have hgl := HST.out.gl.2
              have hp5 : pre.length ≤ 5 := by have := HPL.out; omega
              have f2 := HC.out.fz 2
              have HFZ := Lib.hid HC.out.fz
              have HJ := Lib.hid hj
              clear hj
              go_wp2
              go_quiet (fail)
              go_wp2_with (go_loud (at_builtin; refine appTh rfl _ _ rfl rfl (((HST.out.after (by with_reducible (repeat (first | exact Ext.refl _ | apply Ext.drewN | apply Ext.drew | apply Ext.alloc | (refine Ext.set ?_ (by first | (simp; done) | (simp; omega) | omega) _) | (refine Ext.trans ?_ (by assumption)))))).mark j true).cell 2 (.int .i64 (l - t))) ((Ext.refl _).alloc _) (by omega) rfl (heap_alloc_set2 _ _ _ _ _ _) rfl ?_; intro A3 c3 w3 S3 hg3; have hbk3 := hg3.block g (by (simp [World.setCell]; omega)) HTN.out; have r0 := (World.cell?_of_block (a := ⟨g, 0, none⟩) hbk3).trans (show _ = some (Value.int .i64 n) by go_simp); have r1 := (World.cell?_of_block (a := ⟨g, 1, none⟩) hbk3).trans (show _ = some (Value.int .i64 h) by go_simp); have r2 := (World.cell?_of_block (a := ⟨g, 2, none⟩) hbk3).trans (show _ = some (Value.int .i64 (l - t)) by go_simp); have r3 := (World.cell?_of_block (a := ⟨g, 3, none⟩) hbk3).trans (show _ = some (Value.slice (some ⟨ub, 0, none⟩) n n) by go_simp); have r4 := (World.cell?_of_block (a := ⟨g, 4, none⟩) hbk3).trans (show _ = some (Value.slice At pre.length ct) by go_simp); have r5 := (World.cell?_of_block (a := ⟨g, 5, none⟩) hbk3).trans (show _ = some (Value.slice Ao (out ++ spart n h d U pre l t).length co) by go_simp); have r6 := (World.cell?_of_block (a := ⟨g, 6, none⟩) hbk3).trans (show _ = some (Value.bool false) by go_simp); have rf : ∀ o, w3.frozen? ⟨g, o, none⟩ = false := fun o => (World.frozen?_of_block (a := ⟨g, o, none⟩) hbk3).trans ((show _ = wr.frozen? ⟨g, o, none⟩ by go_simp).trans (HFZ.out o)); have rf4 := rf 4))
              have HL4 : Hid (L12 w0 (w3.setCell ⟨g, 4, none⟩ (.slice A3 (pre.length + 1) c3)) g ub n h (upd U j true) (pre ++ [(t : Int)]) (l - t) (out ++ spart n h d U pre l t) false) := ⟨A3, c3, Ao, co, S3.cell 4 _, ⟨by go_simp, by go_simp, by go_simp, by go_simp, by rw [List.length_append]; go_simp, by go_simp, by go_simp, fun o => by rw [World.frozen?_setCell]; exact rf o⟩⟩
              (with_reducible refine (HIH.out w0 _ g ub (upd U j true) (pre ++ [(t : Int)]) (l - t) (out ++ spart n h d U pre l t) (b + 1) (by have := HB.out; omega) (by have := HPL.out; simp; omega) (fun y hy => by rcases List.mem_append.1 hy with h1 | h1; exact HPB.out y h1; simp at h1; omega) (by omega) hlen HL4.out).mono ?_)
              rintro e w5 ⟨rfl, hL5⟩
              --BEHIND
              generalize hall : (out ++ spart n h d U pre l t) ++ srch n h d (upd U j true) (pre ++ [(t : Int)]) (l - t) = all at hL5
              have HALL : Hid (out ++ spart n h d U pre l (t + 1) = all) := by rw [spart_succ, sarm_yes (by omega) (by rw [HJ.out]; exact hu) (by rw [hdi]; omega), HJ.out, ← List.append_assoc]; exact hall
              clear hall
              obtain ⟨A5, c5, O5, o5, hst5, hC5⟩ := hL5
              have hle : (pre ++ [(t : Int)]).length = pre.length + 1 := by simp
              rw [hle] at hC5
              clear hle
              obtain ⟨b5, rfl⟩ : ∃ b5, A5 = some ⟨b5, 0, none⟩ := by
                rcases hst5.thr.own.2 with ⟨e, e0⟩ | ⟨b, cap, cur, ev, _⟩
                · simp at e0
                · simp only [Value.slice.injEq] at ev
                  exact ⟨b, ev.1⟩
              have HST5 := Lib.hid hst5
              have HC5 := Lib.hid hC5
              clear r0 r1 r2 r3 r4 r5 r6 rf rf4 S3 hg3 hbk3 q0 q1 q2 q3 q4 q5 q6 u0 u1 f2
              obtain ⟨s0, s1, s2, s3, s4, s5, s6, sf⟩ := hC5
              obtain ⟨v0, v1⟩ := hst5.used.cellAt (p := j) (by omega)
              rw [usd_get _ hjn, upd_self] at v0
              have f4 := sf 4
              have f2 := sf 2
              have hgl5 := hst5.gl.2
              have hub5 := (hst5.used.row_bd ub rfl).2
              clear hst5 sf
              have wq : l - (t : Int) + t = l := by omega
              have wq2 : (pre.length : Int) + 1 - 1 = pre.length := by omega
              have hpc : pre.length + 1 ≤ c5 := by
                rcases HST5.out.thr.own.2 with ⟨e, e0⟩ | ⟨b, cap, cur, ev, hb5, hg5, hc5, hm5, hz5, ht5⟩
                · simp at e0
                · simp only [Value.slice.injEq] at ev
                  obtain ⟨_, _, rfl⟩ := ev
                  simpa using hc5
              have hpc0 : (0 : Int) ≤ pre.length := by omega
              have hpc1 : (pre.length : Int) ≤ c5 := by omega
              have wq3 : IntKind.i64.wrap (pre.length : Int) = pre.length := IntWalk.i64_in _ (by omega)
              have HEND : Hid (L12 w0 ((((w5.setCell ⟨g, 4, none⟩ (.slice (some ⟨b5, 0, none⟩) pre.length c5)).setCell ⟨g, 2, none⟩ (.int .i64 l)).setCell ⟨ub, j, none⟩ (.bool false)).drew) g ub n h U pre l (all.take 3000) (decide (3000 < all.length))) := ⟨some ⟨b5, 0, none⟩, c5, O5, o5, ((((HST5.out.pop.cell 4 _).cell 2 _).mark j false).same (usd_back n U j hu)).after ((Ext.refl _).drew), ⟨by go_simp, by go_simp, by go_simp, by go_simp, by go_simp, by go_simp, by go_simp, fun o => by go_simp; exact HC5.out.fz o⟩⟩
              go_upto_region 14 with fail
              refine wp_region_late 12 3 8 (Holds [(⟨g, 4, none⟩, .slice (some ⟨b5, 0, none⟩) (pre.length + 1) c5), (⟨g, 2, none⟩, .int .i64 (l - (t : Int)))]) rfl (by kernel_rfl) (by kernel_rfl) (by (simp only [Holds_cons, Holds_nil, and_true]); exact ⟨s4, s2⟩) (fun hHeld => ?_)
              refine wpAnyH_take (i := 0) (v := ?_) rfl (by kernel_rfl) (by kernel_rfl) (by kernel_rfl) (fun _ _ _ h => h) (Or.inl ⟨by rfl, ?hyh1⟩) hHeld ?_
              case hyh1 => ((intro wz hSw); (simp only [Holds_cons, Holds_nil, and_true] at hSw); (obtain ⟨_, _⟩ := hSw); go_simp; (try with_reducible rfl))
              (try simp only [List.getElem_toArray, List.getElem_cons_succ, List.getElem_cons_zero, Act.put, List.setIfInBounds_toArray, List.set_cons_zero, List.set_cons_succ])
              refine wpAnyH_take (i := 1) (v := ?_) rfl (by kernel_rfl) (by kernel_rfl) (by kernel_rfl) (fun _ _ _ h => h) (Or.inl ⟨by rfl, ?hyh2⟩) hHeld ?_
              case hyh2 => ((intro wz hSw); (simp only [Holds_cons, Holds_nil, and_true] at hSw); (obtain ⟨_, _⟩ := hSw); go_simp; (try with_reducible rfl))
              (try simp only [List.getElem_toArray, List.getElem_cons_succ, List.getElem_cons_zero, Act.put, List.setIfInBounds_toArray, List.set_cons_zero, List.set_cons_succ])
              refine wpAnyH_take (i := 2) (v := ?_) rfl (by kernel_rfl) (by kernel_rfl) (by kernel_rfl) (fun _ _ _ h => h) (Or.inl ⟨by rfl, ?hyh3⟩) hHeld ?_
              case hyh3 => ((intro wz hSw); (simp only [Holds_cons, Holds_nil, and_true] at hSw); (obtain ⟨_, _⟩ := hSw); go_simp; (try with_reducible rfl))
              (try simp only [List.getElem_toArray, List.getElem_cons_succ, List.getElem_cons_zero, Act.put, List.setIfInBounds_toArray, List.set_cons_zero, List.set_cons_succ])
              refine wpAnyH_take (i := 3) (v := ?_) rfl (by kernel_rfl) (by kernel_rfl) (by kernel_rfl) (fun _ _ _ h => h) (Or.inl ⟨by rfl, ?hyh4⟩) hHeld ?_
              case hyh4 => ((intro wz hSw); (simp only [Holds_cons, Holds_nil, and_true] at hSw); (obtain ⟨_, _⟩ := hSw); go_simp; (try with_reducible rfl))
              (try simp only [List.getElem_toArray, List.getElem_cons_succ, List.getElem_cons_zero, Act.put, List.setIfInBounds_toArray, List.set_cons_zero, List.set_cons_succ])
              refine wpAnyH_take (i := 4) (v := ?_) rfl (by kernel_rfl) (by kernel_rfl) (by kernel_rfl) (fun _ _ _ h => h) (Or.inl ⟨by rfl, ?hyh5⟩) hHeld ?_
              case hyh5 => ((intro wz hSw); (simp only [Holds_cons, Holds_nil, and_true] at hSw); (obtain ⟨_, _⟩ := hSw); go_simp; (try with_reducible rfl))
              (try simp only [List.getElem_toArray, List.getElem_cons_succ, List.getElem_cons_zero, Act.put, List.setIfInBounds_toArray, List.set_cons_zero, List.set_cons_succ])
              refine wpAnyH_take (i := 5) (v := ?_) rfl (by kernel_rfl) (by kernel_rfl) (by kernel_rfl) (fun _ _ _ h => h) (Or.inl ⟨by rfl, ?hyh6⟩) hHeld ?_
              case hyh6 => ((intro wz hSw); (simp only [Holds_cons, Holds_nil, and_true] at hSw); (obtain ⟨_, _⟩ := hSw); go_simp; (try with_reducible rfl))
              (try simp only [List.getElem_toArray, List.getElem_cons_succ, List.getElem_cons_zero, Act.put, List.setIfInBounds_toArray, List.set_cons_zero, List.set_cons_succ])
              refine wpAnyH_take (i := 6) (v := ?_) rfl (by kernel_rfl) (by kernel_rfl) (by kernel_rfl) (fun _ _ _ h => h) (Or.inl ⟨by rfl, ?hyh7⟩) hHeld ?_
              case hyh7 => ((intro wz hSw); (simp only [Holds_cons, Holds_nil, and_true] at hSw); (obtain ⟨_, _⟩ := hSw); go_simp; (try with_reducible rfl))
              (try simp only [List.getElem_toArray, List.getElem_cons_succ, List.getElem_cons_zero, Act.put, List.setIfInBounds_toArray, List.set_cons_zero, List.set_cons_succ])
              refine wpAnyH_take (i := 7) (v := ?_) rfl (by kernel_rfl) (by kernel_rfl) (by kernel_rfl) (fun _ _ _ h => h) (Or.inl ⟨by rfl, ?hyh8⟩) hHeld ?_
              case hyh8 => ((intro wz hSw); (simp only [Holds_cons, Holds_nil, and_true] at hSw); (obtain ⟨_, _⟩ := hSw); go_simp; (try with_reducible rfl))
              (try simp only [List.getElem_toArray, List.getElem_cons_succ, List.getElem_cons_zero, Act.put, List.setIfInBounds_toArray, List.set_cons_zero, List.set_cons_succ])
              refine wpAnyH_take (i := 8) (v := ?_) rfl (by kernel_rfl) (by kernel_rfl) (by kernel_rfl) (fun _ _ _ h => h) (Or.inl ⟨by rfl, ?hyh9⟩) hHeld ?_
              case hyh9 => ((intro wz hSw); (simp only [Holds_cons, Holds_nil, and_true] at hSw); (obtain ⟨_, _⟩ := hSw); go_simp; (try with_reducible rfl))
              (try simp only [List.getElem_toArray, List.getElem_cons_succ, List.getElem_cons_zero, Act.put, List.setIfInBounds_toArray, List.set_cons_zero, List.set_cons_succ])
              refine wpAnyH_take (i := 9) (v := ?_) rfl (by kernel_rfl) (by kernel_rfl) (by kernel_rfl) (fun _ _ _ h => h) (Or.inl ⟨by rfl, ?hyh10⟩) hHeld ?_
              case hyh10 => ((intro wz hSw); (simp only [Holds_cons, Holds_nil, and_true] at hSw); (obtain ⟨_, _⟩ := hSw); go_simp; (try with_reducible rfl))
              (try simp only [List.getElem_toArray, List.getElem_cons_succ, List.getElem_cons_zero, Act.put, List.setIfInBounds_toArray, List.set_cons_zero, List.set_cons_succ])
              refine wpAnyH_take (i := 10) (v := ?_) rfl (by kernel_rfl) (by kernel_rfl) (by kernel_rfl) (fun _ _ _ h => h) (Or.inl ⟨by rfl, ?hyh11⟩) hHeld ?_
              case hyh11 => ((intro wz hSw); (simp only [Holds_cons, Holds_nil, and_true] at hSw); (obtain ⟨_, _⟩ := hSw); go_simp; (try with_reducible rfl))
              (try simp only [List.getElem_toArray, List.getElem_cons_succ, List.getElem_cons_zero, Act.put, List.setIfInBounds_toArray, List.set_cons_zero, List.set_cons_succ])
              refine wpAnyH_take (i := 11) (v := ?_) rfl (by kernel_rfl) (by kernel_rfl) (by kernel_rfl) (fun _ _ _ h => h) (Or.inl ⟨by rfl, ?hyh12⟩) hHeld ?_
              case hyh12 => ((intro wz hSw); (simp only [Holds_cons, Holds_nil, and_true] at hSw); (obtain ⟨_, _⟩ := hSw); go_simp; (try with_reducible rfl))
              (try simp only [List.getElem_toArray, List.getElem_cons_succ, List.getElem_cons_zero, Act.put, List.setIfInBounds_toArray, List.set_cons_zero, List.set_cons_succ])
              refine wpAnyH_done (by kernel_rfl) ?_ _
              refine LateQ.normal ?_
              refine wpAny_take (i := 12) (v := ?_) rfl (by kernel_rfl) (by kernel_rfl) (by kernel_rfl) (fun _ _ _ h => h) (Or.inl ⟨by rfl, ?hyh13⟩) ?_
              case hyh13 => ((intro wz); go_simp; (try with_reducible rfl))
              (try simp only [List.getElem_toArray, List.getElem_cons_succ, List.getElem_cons_zero, Act.put, List.setIfInBounds_toArray, List.set_cons_zero, List.set_cons_succ])
              refine wpAny_take (i := 13) (v := ?_) rfl (by kernel_rfl) (by kernel_rfl) (by kernel_rfl) (fun _ _ _ h => h) (Or.inl ⟨by rfl, ?hyh14⟩) ?_
              case hyh14 => ((intro wz); go_simp; (try with_reducible rfl))
              (try simp only [List.getElem_toArray, List.getElem_cons_succ, List.getElem_cons_zero, Act.put, List.setIfInBounds_toArray, List.set_cons_zero, List.set_cons_succ])
              refine wpAny_ready (rs := [14]) (by kernel_rfl) (by simp) ?_
              refine AllReady.cons rfl (fun K hK => ?_) AllReady.nil
              go_simp
              (try (refine hK _ _ ?_; clear hK K))
              (try simp only [List.getElem_toArray, List.getElem_cons_succ, List.getElem_cons_zero, Act.put, List.setIfInBounds_toArray, List.set_cons_zero, List.set_cons_succ])
              refine wpAny_done (by kernel_rfl) ?_ _
              clear hHeld
              go_wp2
              go_roundw
              case rel => exact ⟨t + 1, by omega, by go_num, by rw [HALL.out]; exact HEND⟩
              case measure => simp [intOf]; omega
              --BEYOND
          · rw [hu] at u0
            have HN : Hid (∀ W, Ext wr W → L12 w0 W g ub n h U pre l ((out ++ spart n h d U pre l (t + 1)).take 3000) (decide (3000 < (out ++ spart n h d U pre l (t + 1)).length))) := fun W k => by
              rw [spart_succ, sarm_no (by rw [hj, hu]; simp), List.append_nil, List.take_of_length_le hlen, decide_eq_false (by omega)]
              exact HS1.out.after k
            clear hlen hj
            go_wp2
            go_quiet (fail)
            go_wp2
            go_roundw
            case rel => exact ⟨t + 1, by omega, by go_num, HN.out _ (by with_reducible (repeat (first | exact Ext.refl _ | apply Ext.drewN | apply Ext.drew | apply Ext.alloc | (refine Ext.set ?_ (by first | (simp; done) | (simp; omega) | omega) _) | (refine Ext.trans ?_ (by assumption)))))⟩
            case measure => simp [intOf]; omega
        · -- full
          have HF : Hid (Wlk w0 g ub n h U pre l (out ++ srch n h (d + 1) U pre l) (.returned (.tuple #[])) wr) := by
            obtain ⟨rest, e⟩ := spart_pre (n := n) (h := h) (d := d) (U := U) (pre := pre) (l := l) t (h + 1 - t)
            rw [show t + (h + 1 - t) = h + 1 by omega, ← srch_succ] at e
            obtain ⟨e1, e2⟩ := full_end (C := rest) (of_decide_eq_true hf)
            refine ⟨rfl, ?_⟩
            rw [e, ← e1, decide_eq_true e2, ← hf]
            exact HL.out
          clear qf hf
          go_wp2
          go_end0
          exact HF.out
      · have HF : Hid (Wlk w0 g ub n h U pre l (out ++ srch n h (d + 1) U pre l) (.returned (.tuple #[])) wr) := by
          refine ⟨rfl, ?_⟩
          rw [spart_end (k := t) (by omega) (by omega)]
          exact HL.out
        clear qf
        go_wp2
        go_end0
        exact HF.out
    · obtain rfl : t = h + 1 := by omega
      have i1 : ¬ ((h + 1 : Nat) : Int) ≤ h := by omega
      have HF : Hid (Wlk w0 g ub n h U pre l (out ++ srch n h (d + 1) U pre l) (.returned (.tuple #[])) wr) := ⟨rfl, HL.out⟩
      clear qf
      go_wp2
      go_end0
      exact HF.out
end Go.Proofs.Ytbldhfmhipdniaa
