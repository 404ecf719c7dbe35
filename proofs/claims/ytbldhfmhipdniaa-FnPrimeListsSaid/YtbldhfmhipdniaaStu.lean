/- The program's search for patterns: (*search).step, one beat. No condition but the stated bounds. -/
import Derived.Test.YtbldhfmhipdniaaStq
namespace Go.Proofs.Ytbldhfmhipdniaa
set_option linter.unusedVariables false
set_option linter.unusedSimpArgs false
open Go.ChangeShapes Go.WideShapes Go.ChangeAt Go.RowKit Go.Joins Go.Deep

theorem OBx.set {w : World} {q : Nat} {Ao : Option Addr} {m co : Nat} (c : OBx w q Ao m co) {p : Addr} (h : p.block ≠ q) (v : Value) : OBx (w.setCell p v) q Ao m co :=
  ⟨by rw [World.cell?_setCell_far _ _ _ _ h]; exact c.c0, by rw [World.frozen?_setCell]; exact c.fz⟩
theorem OBx.drew {w : World} {q : Nat} {Ao : Option Addr} {m co : Nat} (c : OBx w q Ao m co) : OBx w.drew q Ao m co := ⟨c.c0, c.fz⟩
set_option maxHeartbeats 8000000 in
set_option maxRecDepth 100000 in
theorem step58_step (kf n h d : Nat) (F : List (List Int) → List Int → List (List Int) × Bool) (Ok : Nat → List (List Int) → Prop) (hF : OkF F Ok) (hn : 1 ≤ n ∧ n ≤ 6) (hh : h ≤ 15)
    (IH : ∀ (w0 w : World) (g q ub : Nat) (U : Nat → Bool) (pre : List Int) (l : Int) (out : List (List Int)), pre.length + d = n → (∀ y ∈ pre, 0 ≤ y ∧ y ≤ 15) → (0 ≤ l ∧ l ≤ 1000) → Ok (srch n h d U pre l).length out → S58 w0 w g q ub n h (.func (.func kf) #[] #[.pointer (some ⟨q, 0, none⟩)]) U pre out →
      Calls Try.prog 58 #[.pointer (some ⟨g, 0, none⟩), .int .i64 l] w (Stp w0 g q ub n h (.func (.func kf) #[] #[.pointer (some ⟨q, 0, none⟩)]) U pre (runF F (srch n h d U pre l) out)))
    (w0 w : World) (g q ub : Nat) (U : Nat → Bool) (pre : List Int) (l : Int) (out : List (List Int)) (hpl : pre.length + (d + 1) = n) (hpb : ∀ y ∈ pre, 0 ≤ y ∧ y ≤ 15) (hl : 0 ≤ l ∧ l ≤ 1000) (hok : Ok (srch n h (d + 1) U pre l).length out) (hS : S58 w0 w g q ub n h (.func (.func kf) #[] #[.pointer (some ⟨q, 0, none⟩)]) U pre out) :
    Calls Try.prog 58 #[.pointer (some ⟨g, 0, none⟩), .int .i64 l] w (Stp w0 g q ub n h (.func (.func kf) #[] #[.pointer (some ⟨q, 0, none⟩)]) U pre (runF F (srch n h (d + 1) U pre l) out)) := by
  have hd6 : d + 1 ≤ 6 := by omega
  have hpn : ((pre.length : Int) == (n : Int)) = false := by simp; omega
  have hp5 : pre.length ≤ 5 := by omega
  have HPL := Lib.hid hpl
  have HPB := Lib.hid hpb
  have HIH := Lib.hid IH
  have HOK := Lib.hid hok
  have HFF := Lib.hid hF
  clear hpb IH hok hF
  obtain ⟨dh, hdh2⟩ : ∃ dh : Nat, d * h = dh := ⟨_, rfl⟩
  have hdh : dh ≤ 5 * 15 := by rw [← hdh2]; exact Nat.mul_le_mul (by omega) hh
  have hdi : (d : Int) * h = dh := by rw [← hdh2]; exact (Int.natCast_mul d h).symm
  have hnb : (n : Int) - 1 - pre.length = d := by omega
  obtain ⟨t0, ht0⟩ : ∃ t0 : Nat, max (l - (dh : Int)) 0 = t0 := ⟨(max (l - (dh : Int)) 0).toNat, by omega⟩
  have hmx : (if l - (dh : Int) < 0 then (0 : Int) else l - dh) = t0 := by rw [← ht0]; split <;> omega
  have w1 : IntKind.i64.wrap ((n : Int) - 1) = n - 1 := IntWalk.i64_in _ (by omega)
  have w2 : IntKind.i64.wrap ((n : Int) - 1 - pre.length) = d := by rw [hnb]; exact IntWalk.i64_in _ (by omega)
  have w3 : IntKind.i64.wrap ((d : Int) * h) = dh := by rw [hdi]; exact IntWalk.i64_in _ (by omega)
  have w4 : IntKind.i64.wrap (l - dh) = l - dh := IntWalk.i64_in _ (by omega)
  have ht1 : (t0 : Int) ≤ l - dh ∨ t0 = 0 := by omega
  have ht2 : l - (t0 : Int) ≤ dh := by omega
  have HT0 := Lib.hid ht0
  have hS0 := hS
  obtain ⟨At, ct, Ao, co, hst, hC, hq, hgq⟩ := hS
  obtain ⟨q0, q1, q2, q3, q4, qf⟩ := hC
  have HDI := Lib.hid hdi
  have HS0 : Hid (S58 w0 w.drew g q ub n h (.func (.func kf) #[] #[.pointer (some ⟨q, 0, none⟩)]) U pre (runF F (spart n h d U pre l t0) out).1 ∧ (runF F (spart n h d U pre l t0) out).2 = true) := by
    have e : spart n h d U pre l t0 = [] := by
      rcases ht1 with h1 | h1
      · exact spart_low t0 (by rw [hdi]; exact h1)
      · subst h1; exact spart_zero
    show _ ∧ _
    rw [e]
    exact ⟨hS0.after ((Ext.refl _).drew), rfl⟩
  have ht3 : t0 ≤ h + 1 ∨ (t0 : Int) ≤ l - dh := by omega
  clear hst hq qf hdi hdh2 hpl hS0 hnb ht0
  obtain ⟨mn, hmn⟩ : ∃ mn : Int, min (h : Int) l = mn := ⟨_, rfl⟩
  have HMN := Lib.hid hmn
  have hm1 : (if (h : Int) < l then (h : Int) else l) = mn := by rw [← hmn]; split <;> omega
  have hm2 : (if l < (h : Int) then l else (h : Int)) = mn := by rw [← hmn]; split <;> omega
  clear hmn
  go_enter Try.func58, Try.ntmps58
  go_upto_region 4 with fail
  refine wp_region_held_drew (S := Holds [(⟨g, 0, none⟩, .int .i64 n), (⟨g, 1, none⟩, .int .i64 h)]) (by kernel_rfl) (by (simp only [Holds_cons, Holds_nil, and_true]); exact ⟨q0, q1⟩) (fun hHeld => ?_)
  refine wpAnyH_take (i := 0) (v := ?_) rfl (by kernel_rfl) (by kernel_rfl) (by kernel_rfl) (fun _ _ _ h => h) (Or.inl ⟨by rfl, ?hyh1⟩) hHeld ?_
  case hyh1 => ((intro wz hSw); (simp only [Holds_cons, Holds_nil, and_true] at hSw); (obtain ⟨_, _⟩ := hSw); go_simp; (try with_reducible rfl))
  (try simp only [List.getElem_toArray, List.getElem_cons_succ, List.getElem_cons_zero, Act.put, List.setIfInBounds_toArray, List.set_cons_zero, List.set_cons_succ])
  refine wpAnyH_take (i := 1) (v := ?_) rfl (by kernel_rfl) (by kernel_rfl) (by kernel_rfl) (fun _ _ _ h => h) (Or.inl ⟨by rfl, ?hyh2⟩) hHeld ?_
  case hyh2 => ((intro wz hSw); (simp only [Holds_cons, Holds_nil, and_true] at hSw); (obtain ⟨_, _⟩ := hSw); go_simp; (try with_reducible rfl))
  (try simp only [List.getElem_toArray, List.getElem_cons_succ, List.getElem_cons_zero, Act.put, List.setIfInBounds_toArray, List.set_cons_zero, List.set_cons_succ])
  refine wpAnyH_take (i := 2) (v := ?_) rfl (by kernel_rfl) (by kernel_rfl) (by kernel_rfl) (fun _ _ _ h => h) (Or.inl ⟨by rfl, ?hyh3⟩) hHeld ?_
  case hyh3 => ((intro wz hSw); (simp only [Holds_cons, Holds_nil, and_true] at hSw); (obtain ⟨_, _⟩ := hSw); go_simp; (try with_reducible rfl))
  (try simp only [List.getElem_toArray, List.getElem_cons_succ, List.getElem_cons_zero, Act.put, List.setIfInBounds_toArray, List.set_cons_zero, List.set_cons_succ])
  refine wpAnyH_take (i := 3) (v := ?_) rfl (by kernel_rfl) (by kernel_rfl) (by kernel_rfl) (fun _ _ _ h => h) (Or.inl ⟨by rfl, ?hyh4⟩) hHeld ?_
  case hyh4 => ((intro wz hSw); (simp only [Holds_cons, Holds_nil, and_true] at hSw); (obtain ⟨_, _⟩ := hSw); go_simp; (try with_reducible rfl))
  (try simp only [List.getElem_toArray, List.getElem_cons_succ, List.getElem_cons_zero, Act.put, List.setIfInBounds_toArray, List.set_cons_zero, List.set_cons_succ])
  refine wpAnyH_take (i := 4) (v := ?_) rfl (by kernel_rfl) (by kernel_rfl) (by kernel_rfl) (fun _ _ _ h => h) (Or.inl ⟨by rfl, ?hyh5⟩) hHeld ?_
  case hyh5 => ((intro wz hSw); (simp only [Holds_cons, Holds_nil, and_true] at hSw); (obtain ⟨_, _⟩ := hSw); go_simp; (try with_reducible rfl))
  (try simp only [List.getElem_toArray, List.getElem_cons_succ, List.getElem_cons_zero, Act.put, List.setIfInBounds_toArray, List.set_cons_zero, List.set_cons_succ])
  refine wpAnyH_take (i := 5) (v := ?_) rfl (by kernel_rfl) (by kernel_rfl) (by kernel_rfl) (fun _ _ _ h => h) (Or.inl ⟨by rfl, ?hyh6⟩) hHeld ?_
  case hyh6 => ((intro wz hSw); (simp only [Holds_cons, Holds_nil, and_true] at hSw); (obtain ⟨_, _⟩ := hSw); go_simp; (try with_reducible rfl))
  (try simp only [List.getElem_toArray, List.getElem_cons_succ, List.getElem_cons_zero, Act.put, List.setIfInBounds_toArray, List.set_cons_zero, List.set_cons_succ])
  refine wpAnyH_take (i := 6) (v := ?_) rfl (by kernel_rfl) (by kernel_rfl) (by kernel_rfl) (fun _ _ _ h => h) (Or.inl ⟨by rfl, ?hyh7⟩) hHeld ?_
  case hyh7 => ((intro wz hSw); (simp only [Holds_cons, Holds_nil, and_true] at hSw); (obtain ⟨_, _⟩ := hSw); go_simp; (try with_reducible rfl))
  (try simp only [List.getElem_toArray, List.getElem_cons_succ, List.getElem_cons_zero, Act.put, List.setIfInBounds_toArray, List.set_cons_zero, List.set_cons_succ])
  refine wpAnyH_take (i := 7) (v := ?_) rfl (by kernel_rfl) (by kernel_rfl) (by kernel_rfl) (fun _ _ _ h => h) (Or.inl ⟨by rfl, ?hyh8⟩) hHeld ?_
  case hyh8 => ((intro wz hSw); (simp only [Holds_cons, Holds_nil, and_true] at hSw); (obtain ⟨_, _⟩ := hSw); go_simp; (try with_reducible rfl))
  (try simp only [List.getElem_toArray, List.getElem_cons_succ, List.getElem_cons_zero, Act.put, List.setIfInBounds_toArray, List.set_cons_zero, List.set_cons_succ])
  refine wpAnyH_take (i := 8) (v := ?_) rfl (by kernel_rfl) (by kernel_rfl) (by kernel_rfl) (fun _ _ _ h => h) (Or.inl ⟨by rfl, ?hyh9⟩) hHeld ?_
  case hyh9 => ((intro wz hSw); (simp only [Holds_cons, Holds_nil, and_true] at hSw); (obtain ⟨_, _⟩ := hSw); go_simp; (try with_reducible rfl))
  (try simp only [List.getElem_toArray, List.getElem_cons_succ, List.getElem_cons_zero, Act.put, List.setIfInBounds_toArray, List.set_cons_zero, List.set_cons_succ])
  refine wpAnyH_take (i := 9) (v := ?_) rfl (by kernel_rfl) (by kernel_rfl) (by kernel_rfl) (fun _ _ _ h => h) (Or.inl ⟨by rfl, ?hyh10⟩) hHeld ?_
  case hyh10 => ((intro wz hSw); (simp only [Holds_cons, Holds_nil, and_true] at hSw); (obtain ⟨_, _⟩ := hSw); go_simp; (try with_reducible rfl))
  (try simp only [List.getElem_toArray, List.getElem_cons_succ, List.getElem_cons_zero, Act.put, List.setIfInBounds_toArray, List.set_cons_zero, List.set_cons_succ])
  refine wpAnyH_take (i := 10) (v := ?_) rfl (by kernel_rfl) (by kernel_rfl) (by kernel_rfl) (fun _ _ _ h => h) (Or.inl ⟨by rfl, ?hyh11⟩) hHeld ?_
  case hyh11 => ((intro wz hSw); (simp only [Holds_cons, Holds_nil, and_true] at hSw); (obtain ⟨_, _⟩ := hSw); go_simp; (try with_reducible rfl))
  (try simp only [List.getElem_toArray, List.getElem_cons_succ, List.getElem_cons_zero, Act.put, List.setIfInBounds_toArray, List.set_cons_zero, List.set_cons_succ])
  refine wpAnyH_take (i := 11) (v := ?_) rfl (by kernel_rfl) (by kernel_rfl) (by kernel_rfl) (fun _ _ _ h => h) (Or.inl ⟨by rfl, ?hyh12⟩) hHeld ?_
  case hyh12 => ((intro wz hSw); (simp only [Holds_cons, Holds_nil, and_true] at hSw); (obtain ⟨_, _⟩ := hSw); go_simp; (try with_reducible rfl))
  (try simp only [List.getElem_toArray, List.getElem_cons_succ, List.getElem_cons_zero, Act.put, List.setIfInBounds_toArray, List.set_cons_zero, List.set_cons_succ])
  refine wpAnyH_take (i := 12) (v := ?_) rfl (by kernel_rfl) (by kernel_rfl) (by kernel_rfl) (fun _ _ _ h => h) (Or.inl ⟨by rfl, ?hyh13⟩) hHeld ?_
  case hyh13 => ((intro wz hSw); (simp only [Holds_cons, Holds_nil, and_true] at hSw); (obtain ⟨_, _⟩ := hSw); go_simp; (try with_reducible rfl))
  (try simp only [List.getElem_toArray, List.getElem_cons_succ, List.getElem_cons_zero, Act.put, List.setIfInBounds_toArray, List.set_cons_zero, List.set_cons_succ])
  refine wpAnyH_take (i := 13) (v := ?_) rfl (by kernel_rfl) (by kernel_rfl) (by kernel_rfl) (fun _ _ _ h => h) (Or.inl ⟨by rfl, ?hyh14⟩) hHeld ?_
  case hyh14 => ((intro wz hSw); (simp only [Holds_cons, Holds_nil, and_true] at hSw); (obtain ⟨_, _⟩ := hSw); go_simp; (try with_reducible rfl))
  (try simp only [List.getElem_toArray, List.getElem_cons_succ, List.getElem_cons_zero, Act.put, List.setIfInBounds_toArray, List.set_cons_zero, List.set_cons_succ])
  refine wpAnyH_take (i := 14) (v := ?_) rfl (by kernel_rfl) (by kernel_rfl) (by kernel_rfl) (fun _ _ _ h => h) (Or.inl ⟨by rfl, ?hyh15⟩) hHeld ?_
  case hyh15 => ((intro wz hSw); (simp only [Holds_cons, Holds_nil, and_true] at hSw); (obtain ⟨_, _⟩ := hSw); go_simp; (try with_reducible rfl))
  (try simp only [List.getElem_toArray, List.getElem_cons_succ, List.getElem_cons_zero, Act.put, List.setIfInBounds_toArray, List.set_cons_zero, List.set_cons_succ])
  refine wpAnyH_take (i := 15) (v := ?_) rfl (by kernel_rfl) (by kernel_rfl) (by kernel_rfl) (fun _ _ _ h => h) (Or.inl ⟨by rfl, ?hyh16⟩) hHeld ?_
  case hyh16 => ((intro wz hSw); (simp only [Holds_cons, Holds_nil, and_true] at hSw); (obtain ⟨_, _⟩ := hSw); go_simp; (try with_reducible rfl))
  (try simp only [List.getElem_toArray, List.getElem_cons_succ, List.getElem_cons_zero, Act.put, List.setIfInBounds_toArray, List.set_cons_zero, List.set_cons_succ])
  refine wpAnyH_done (by kernel_rfl) ?_ _
  clear hHeld
  clear q0 q1 q2 q3 q4 w1 w2 w3 w4 hmx
  go_wp2
  go_loopw [6] (fun i wr => ∃ t : Nat, t0 ≤ t ∧ (t ≤ h + 1 ∨ (t : Int) ≤ l - dh) ∧ l - (t : Int) ≤ dh ∧ i = .int .i64 t ∧ Hid (S58 w0 wr g q ub n h (.func (.func kf) #[] #[.pointer (some ⟨q, 0, none⟩)]) U pre (runF F (spart n h d U pre l t) out).1) ∧ Hid ((runF F (spart n h d U pre l t) out).2 = true)) (fun i _ => h + 1 - (intOf i).toNat)
  case atStart => exact ⟨t0, Nat.le_refl _, ht3, ht2, rfl, Lib.hid HS0.out.1, Lib.hid HS0.out.2⟩
  case round =>
    obtain ⟨t, ht, ht4, hdl0, rfl, HL, HGO⟩ := hrel
    obtain ⟨At, ct, Ao, co, hst, hC, hq, hgq⟩ := HL.out
    have HST := Lib.hid hst
    have HC := Lib.hid hC
    have HQ := Lib.hid hq
    obtain ⟨q0, q1, q2, q3, q4, qf⟩ := hC
    have hub := hst.used.row_bd ub rfl
    have hgl := (hst.gl g (by simp)).2
    have hql := (hst.gl q (by simp)).2
    have hgu : ub ≠ g := fun e => hst.ne (by simp [e])
    have huq : ub ≠ q := fun e => hst.ne (by simp [e])
    clear HS0 ht1 ht2 ht3
    by_cases hend : (t : Int) ≤ h ∧ (t : Int) ≤ l
    · obtain ⟨i1, i2⟩ := hend
      have hmin : (t : Int) ≤ mn := by rw [← HMN.out]; omega
      obtain ⟨j, hj⟩ : ∃ j : Nat, (n - (d + 1) + t) % n = j := ⟨_, rfl⟩
      have hjn : j < n := by rw [← hj]; exact Nat.mod_lt _ (by omega)
      have hP := HPL.out
      have hmod : Int.tmod ((pre.length : Int) + t) n = (j : Int) := by
        rw [show (pre.length : Int) + (t : Int) = ((n - (d + 1) + t : Nat) : Int) by omega, ← hj]
        rfl
      have hj0 : (0 : Int) ≤ j := by omega
      have hj1 : (j : Int) < n := by omega
      have hn0 : ¬ (n : Int) = 0 := by omega
      obtain ⟨u0, u1⟩ := hst.used.cellAt (p := j) (by omega)
      rw [usd_get U hjn] at u0
      have w6 : IntKind.i64.wrap ((pre.length : Int) + t) = pre.length + t := IntWalk.i64_in _ (by omega)
      have w7 : IntKind.i64.wrap (l - t) = l - t := IntWalk.i64_in _ (by omega)
      have hdl : l - (t : Int) ≤ (d : Int) * h := by rw [HDI.out]; exact hdl0
      have HJ := Lib.hid hj
      clear hj hP
      cases hu : U j
      · rw [hu] at u0
        have HOK2 : Hid (Ok (srch n h d (upd U j true) (pre ++ [(t : Int)]) (l - t)).length (runF F (spart n h d U pre l t) out).1) := by
          obtain ⟨rest, e⟩ := spart_pre (n := n) (h := h) (d := d) (U := U) (pre := pre) (l := l) (t + 1) (h - t)
          rw [show t + 1 + (h - t) = h + 1 by omega, ← srch_succ, spart_succ, sarm_yes (by omega) (by rw [HJ.out]; exact hu) hdl, HJ.out] at e
          have h1 := HOK.out
          rw [e, List.append_assoc, List.length_append] at h1
          exact HFF.out.less _ _ _ (by rw [List.length_append]; omega) (HFF.out.run _ _ _ h1 HGO.out)
        have hgu2 := hgu
        have HTN : Hid (some g ≠ At.map (·.block)) := fun e => (hst.thn g e.symm).1 (by simp)
        have HTQ : Hid (some q ≠ At.map (·.block)) := fun e => (hst.thn q e.symm).1 (by simp)
        have f2 := qf 2
        clear hst hq qf
        first
        | skip
          go_upto_region 9 with fail
          refine wp_region_late 15 3 8 (Holds [(⟨g, 2, none⟩, .slice At pre.length ct), (⟨g, 3, none⟩, .slice (some ⟨ub, 0, none⟩) n n)]) rfl (by kernel_rfl) (by kernel_rfl) (by (simp only [Holds_cons, Holds_nil, and_true]); exact ⟨q2, q3⟩) (fun hHeld => ?_)
          refine wpAnyH_take (i := 0) (v := ?_) rfl (by kernel_rfl) (by kernel_rfl) (by kernel_rfl) (fun _ _ _ h => h) (Or.inl ⟨by rfl, ?hyh47⟩) hHeld ?_
          case hyh47 => ((intro wz hSw); (simp only [Holds_cons, Holds_nil, and_true] at hSw); (obtain ⟨_, _⟩ := hSw); go_simp; (try with_reducible rfl))
          (try simp only [List.getElem_toArray, List.getElem_cons_succ, List.getElem_cons_zero, Act.put, List.setIfInBounds_toArray, List.set_cons_zero, List.set_cons_succ])
          refine wpAnyH_take (i := 1) (v := ?_) rfl (by kernel_rfl) (by kernel_rfl) (by kernel_rfl) (fun _ _ _ h => h) (Or.inl ⟨by rfl, ?hyh48⟩) hHeld ?_
          case hyh48 => ((intro wz hSw); (simp only [Holds_cons, Holds_nil, and_true] at hSw); (obtain ⟨_, _⟩ := hSw); go_simp; (try with_reducible rfl))
          (try simp only [List.getElem_toArray, List.getElem_cons_succ, List.getElem_cons_zero, Act.put, List.setIfInBounds_toArray, List.set_cons_zero, List.set_cons_succ])
          refine wpAnyH_take (i := 2) (v := ?_) rfl (by kernel_rfl) (by kernel_rfl) (by kernel_rfl) (fun _ _ _ h => h) (Or.inl ⟨by rfl, ?hyh49⟩) hHeld ?_
          case hyh49 => ((intro wz hSw); (simp only [Holds_cons, Holds_nil, and_true] at hSw); (obtain ⟨_, _⟩ := hSw); go_simp; (try with_reducible rfl))
          (try simp only [List.getElem_toArray, List.getElem_cons_succ, List.getElem_cons_zero, Act.put, List.setIfInBounds_toArray, List.set_cons_zero, List.set_cons_succ])
          refine wpAnyH_take (i := 3) (v := ?_) rfl (by kernel_rfl) (by kernel_rfl) (by kernel_rfl) (fun _ _ _ h => h) (Or.inl ⟨by rfl, ?hyh50⟩) hHeld ?_
          case hyh50 => ((intro wz hSw); (simp only [Holds_cons, Holds_nil, and_true] at hSw); (obtain ⟨_, _⟩ := hSw); go_simp; (try with_reducible rfl))
          (try simp only [List.getElem_toArray, List.getElem_cons_succ, List.getElem_cons_zero, Act.put, List.setIfInBounds_toArray, List.set_cons_zero, List.set_cons_succ])
          refine wpAnyH_take (i := 4) (v := ?_) rfl (by kernel_rfl) (by kernel_rfl) (by kernel_rfl) (fun _ _ _ h => h) (Or.inl ⟨by rfl, ?hyh51⟩) hHeld ?_
          case hyh51 => ((intro wz hSw); (simp only [Holds_cons, Holds_nil, and_true] at hSw); (obtain ⟨_, _⟩ := hSw); go_simp; (try with_reducible rfl))
          (try simp only [List.getElem_toArray, List.getElem_cons_succ, List.getElem_cons_zero, Act.put, List.setIfInBounds_toArray, List.set_cons_zero, List.set_cons_succ])
          refine wpAnyH_take (i := 5) (v := ?_) rfl (by kernel_rfl) (by kernel_rfl) (by kernel_rfl) (fun _ _ _ h => h) (Or.inl ⟨by rfl, ?hyh52⟩) hHeld ?_
          case hyh52 => ((intro wz hSw); (simp only [Holds_cons, Holds_nil, and_true] at hSw); (obtain ⟨_, _⟩ := hSw); go_simp; (try with_reducible rfl))
          (try simp only [List.getElem_toArray, List.getElem_cons_succ, List.getElem_cons_zero, Act.put, List.setIfInBounds_toArray, List.set_cons_zero, List.set_cons_succ])
          refine wpAnyH_take (i := 6) (v := ?_) rfl (by kernel_rfl) (by kernel_rfl) (by kernel_rfl) (fun _ _ _ h => h) (Or.inl ⟨by rfl, ?hyh53⟩) hHeld ?_
          case hyh53 => ((intro wz hSw); (simp only [Holds_cons, Holds_nil, and_true] at hSw); (obtain ⟨_, _⟩ := hSw); go_simp; (try with_reducible rfl))
          (try simp only [List.getElem_toArray, List.getElem_cons_succ, List.getElem_cons_zero, Act.put, List.setIfInBounds_toArray, List.set_cons_zero, List.set_cons_succ])
          refine wpAnyH_take (i := 7) (v := ?_) rfl (by kernel_rfl) (by kernel_rfl) (by kernel_rfl) (fun _ _ _ h => h) (Or.inl ⟨by rfl, ?hyh54⟩) hHeld ?_
          case hyh54 => ((intro wz hSw); (simp only [Holds_cons, Holds_nil, and_true] at hSw); (obtain ⟨_, _⟩ := hSw); go_simp; (try with_reducible rfl))
          (try simp only [List.getElem_toArray, List.getElem_cons_succ, List.getElem_cons_zero, Act.put, List.setIfInBounds_toArray, List.set_cons_zero, List.set_cons_succ])
          refine wpAnyH_take (i := 8) (v := ?_) rfl (by kernel_rfl) (by kernel_rfl) (by kernel_rfl) (fun _ _ _ h => h) (Or.inl ⟨by rfl, ?hyh55⟩) hHeld ?_
          case hyh55 => ((intro wz hSw); (simp only [Holds_cons, Holds_nil, and_true] at hSw); (obtain ⟨_, _⟩ := hSw); go_simp; (try with_reducible rfl))
          (try simp only [List.getElem_toArray, List.getElem_cons_succ, List.getElem_cons_zero, Act.put, List.setIfInBounds_toArray, List.set_cons_zero, List.set_cons_succ])
          refine wpAnyH_take (i := 9) (v := ?_) rfl (by kernel_rfl) (by kernel_rfl) (by kernel_rfl) (fun _ _ _ h => h) (Or.inl ⟨by rfl, ?hyh56⟩) hHeld ?_
          case hyh56 => ((intro wz hSw); (simp only [Holds_cons, Holds_nil, and_true] at hSw); (obtain ⟨_, _⟩ := hSw); go_simp; (try with_reducible rfl))
          (try simp only [List.getElem_toArray, List.getElem_cons_succ, List.getElem_cons_zero, Act.put, List.setIfInBounds_toArray, List.set_cons_zero, List.set_cons_succ])
          refine wpAnyH_take (i := 10) (v := ?_) rfl (by kernel_rfl) (by kernel_rfl) (by kernel_rfl) (fun _ _ _ h => h) (Or.inl ⟨by rfl, ?hyh57⟩) hHeld ?_
          case hyh57 => ((intro wz hSw); (simp only [Holds_cons, Holds_nil, and_true] at hSw); (obtain ⟨_, _⟩ := hSw); go_simp; (try with_reducible rfl))
          (try simp only [List.getElem_toArray, List.getElem_cons_succ, List.getElem_cons_zero, Act.put, List.setIfInBounds_toArray, List.set_cons_zero, List.set_cons_succ])
          refine wpAnyH_ready (rs := [11]) (by kernel_rfl) (by simp) ?_
          refine AllReadyH.cons rfl (fun K hK => ?_) AllReadyH.nil
          go_simp
          refine hK.out _ _ (Holds.alloc hHeld _) (fun hHeldN => ?_)
          clear hK K hHeld
          have hHeld := hHeldN
          clear hHeldN
          (try simp only [List.getElem_toArray, List.getElem_cons_succ, List.getElem_cons_zero, Act.put, List.setIfInBounds_toArray, List.set_cons_zero, List.set_cons_succ])
          refine wpAnyH_ready (rs := [12]) (by kernel_rfl) (by simp) ?_
          refine AllReadyH.cons rfl (fun K hK => ?_) AllReadyH.nil
          refine stepTP (by rfl) _ _ (by rfl) (by rfl) HST.out ((show Ext wr wr.drew from (Ext.refl _).drew).alloc _) (by omega) (by rfl) (heap_alloc_new _ _) (by rfl) ?_
          intro A3 c3 w3 S3 hg3
          have hbk3 : w3.heap[g]? = wr.heap[g]? := (hg3.block g (by simp; omega) HTN.out).trans (Below.block ((show Ext wr wr.drew from (Ext.refl _).drew).alloc _) g hgl)
          have hbq3 : w3.heap[q]? = wr.heap[q]? := (hg3.block q (by simp; omega) HTQ.out).trans (Below.block ((show Ext wr wr.drew from (Ext.refl _).drew).alloc _) q hql)
          obtain ⟨v0, v1⟩ := S3.used.cellAt (p := j) (by omega)
          rw [usd_get U hjn, hu] at v0
          have rc2 := (HC.out.keep hbk3).c2
          have rf2 := (HC.out.keep hbk3).fz 2
          refine hK.out _ _ (by (simp only [Holds_cons, Holds_nil, and_true]); exact ⟨(World.cell?_of_block hbk3).trans q2, (World.cell?_of_block hbk3).trans q3⟩) (fun hHeldN => ?_)
          clear hK K hHeld
          have hHeld := hHeldN
          clear hHeldN
          (try simp only [List.getElem_toArray, List.getElem_cons_succ, List.getElem_cons_zero, Act.put, List.setIfInBounds_toArray, List.set_cons_zero, List.set_cons_succ])
          refine wpAnyH_take (i := 13) (v := ?_) rfl (by kernel_rfl) (by kernel_rfl) (by kernel_rfl) (fun _ _ _ h => h) (Or.inl ⟨by rfl, ?hyh58⟩) hHeld ?_
          case hyh58 => ((intro wz hSw); (simp only [Holds_cons, Holds_nil, and_true] at hSw); (obtain ⟨_, _⟩ := hSw); go_simp; (try with_reducible rfl))
          (try simp only [List.getElem_toArray, List.getElem_cons_succ, List.getElem_cons_zero, Act.put, List.setIfInBounds_toArray, List.set_cons_zero, List.set_cons_succ])
          refine wpAnyH_ready (rs := [14]) (by kernel_rfl) (by simp) ?_
          refine AllReadyH.cons rfl (fun K hK => ?_) AllReadyH.nil
          go_simp
          refine hK.out _ _ (Holds.far hHeld (p := ⟨ub, j, none⟩) (by intro c hc; simp at hc; rcases hc with rfl | rfl <;> exact hgu2) _) (fun hHeldN => ?_)
          clear hK K hHeld
          have hHeld := hHeldN
          clear hHeldN
          (try simp only [List.getElem_toArray, List.getElem_cons_succ, List.getElem_cons_zero, Act.put, List.setIfInBounds_toArray, List.set_cons_zero, List.set_cons_succ])
          refine wpAnyH_done (by kernel_rfl) ?_ _
          refine LateQ.normal ?_
          refine wpAny_take (i := 15) (v := ?_) rfl (by kernel_rfl) (by kernel_rfl) (by kernel_rfl) (fun _ _ _ h => h) (Or.inl ⟨by rfl, ?hyh59⟩) ?_
          case hyh59 => ((intro wz); go_simp; (try with_reducible rfl))
          (try simp only [List.getElem_toArray, List.getElem_cons_succ, List.getElem_cons_zero, Act.put, List.setIfInBounds_toArray, List.set_cons_zero, List.set_cons_succ])
          refine wpAny_take (i := 16) (v := ?_) rfl (by kernel_rfl) (by kernel_rfl) (by kernel_rfl) (fun _ _ _ h => h) (Or.inl ⟨by rfl, ?hyh60⟩) ?_
          case hyh60 => ((intro wz); go_simp; (try with_reducible rfl))
          (try simp only [List.getElem_toArray, List.getElem_cons_succ, List.getElem_cons_zero, Act.put, List.setIfInBounds_toArray, List.set_cons_zero, List.set_cons_succ])
          refine wpAny_ready (rs := [17]) (by kernel_rfl) (by simp) ?_
          refine AllReady.cons rfl (fun K hK => ?_) AllReady.nil
          go_simp
          (try (refine hK _ _ ?_; clear hK K))
          (try simp only [List.getElem_toArray, List.getElem_cons_succ, List.getElem_cons_zero, Act.put, List.setIfInBounds_toArray, List.set_cons_zero, List.set_cons_succ])
          refine wpAny_done (by kernel_rfl) ?_ _
          have C3 := HC.out.keep hbk3
          have OB3 := HQ.out.keep hbq3
          have HS4 : Hid (S58 w0 (((w3.setCell ⟨ub, j, none⟩ (.bool true))).setCell ⟨g, 2, none⟩ (.slice A3 (pre.length + 1) c3)) g q ub n h (.func (.func kf) #[] #[.pointer (some ⟨q, 0, none⟩)]) (upd U j true) (pre ++ [(t : Int)]) (runF F (spart n h d U pre l t) out).1) := by
            obtain ⟨r0, r1, r2, r3, r4, rf⟩ := C3
            exact ⟨A3, c3, Ao, co, (S3.mark j true).cell (by simp) 2 _, ⟨by go_simp, by go_simp, by rw [List.length_append]; go_simp, by go_simp, by go_simp, fun o => by rw [World.frozen?_setCell, World.frozen?_setCell]; exact rf o⟩, (OB3.set huq _).set hgq _, hgq⟩
          clear S3 hg3 hbk3 hbq3 v0 v1 rc2 rf2 hHeld C3 OB3
          go_wp2_with fail
          (with_reducible refine (HIH.out w0 _ g q ub (upd U j true) (pre ++ [(t : Int)]) (l - t) (runF F (spart n h d U pre l t) out).1 (by have := HPL.out; simp; omega) (fun y hy => by rcases List.mem_append.1 hy with h1 | h1; exact HPB.out y h1; simp at h1; omega) (by omega) HOK2.out HS4.out).mono ?_)
          rintro e w5 ⟨rfl, hS5⟩
          generalize hres : runF F (srch n h d (upd U j true) (pre ++ [(t : Int)]) (l - t)) (runF F (spart n h d U pre l t) out).1 = res at hS5
          have HRES : Hid (runF F (spart n h d U pre l (t + 1)) out = res) := by rw [spart_succ, sarm_yes (by omega) (by rw [HJ.out]; exact hu) hdl, HJ.out, runF_go HGO.out]; exact hres
          clear hres
          obtain ⟨A5, c5, O5, o5, hst5, hC5, hq5, _⟩ := hS5
          have hle : (pre ++ [(t : Int)]).length = pre.length + 1 := by simp
          rw [hle] at hC5
          clear hle
          obtain ⟨b5, rfl⟩ : ∃ b5, A5 = some ⟨b5, 0, none⟩ := by
            rcases hst5.thr.own.2 with ⟨e, e0⟩ | ⟨b, cap, cur, ev, _⟩
            · simp at e0
            · simp only [Value.slice.injEq] at ev
              exact ⟨b, ev.1⟩
          have hpc : pre.length + 1 ≤ c5 := by
            rcases hst5.thr.own.2 with ⟨e, e0⟩ | ⟨b, cap, cur, ev, hb5, hg5, hc5, hm5, hz5, ht5⟩
            · simp at e0
            · simp only [Value.slice.injEq] at ev
              obtain ⟨_, _, rfl⟩ := ev
              simpa using hc5
          have HST5 := Lib.hid hst5
          have HC5 := Lib.hid hC5
          have HQ5 := Lib.hid hq5
          clear q0 q1 q2 q3 q4 u0 u1
          obtain ⟨s0, s1, s2, s3, s4, sf⟩ := hC5
          obtain ⟨z0, z1⟩ := hq5
          obtain ⟨v0, v1⟩ := hst5.used.cellAt (p := j) (by omega)
          rw [usd_get _ hjn, upd_self] at v0
          have f2 := sf 2
          have hgl5 := (hst5.gl g (by simp)).2
          have hub5 := (hst5.used.row_bd ub rfl).2
          clear hst5 sf
          have hpc0 : (0 : Int) ≤ pre.length := by omega
          have hpc1 : (pre.length : Int) ≤ c5 := by omega
          have HEND : Hid (S58 w0 (((w5.setCell ⟨ub, j, none⟩ (.bool false)).setCell ⟨g, 2, none⟩ (.slice (some ⟨b5, 0, none⟩) pre.length c5)).drew) g q ub n h (.func (.func kf) #[] #[.pointer (some ⟨q, 0, none⟩)]) U pre res.1) := ⟨some ⟨b5, 0, none⟩, c5, O5, o5, (((HST5.out.pop.mark j false).same (usd_back n U j hu)).cell (by simp) 2 _).after ((Ext.refl _).drew), ⟨by go_simp, by go_simp, by go_simp, by go_simp, by go_simp, fun o => by rw [World.frozen?_drew, World.frozen?_setCell, World.frozen?_setCell]; exact HC5.out.fz o⟩, ((HQ5.out.set huq _).set hgq _).drew, hgq⟩
          obtain ⟨os, on⟩ := res
          cases on
          · go_upto_region 11 with fail
            refine wp_region_late 14 3 8 (Holds [(⟨g, 2, none⟩, .slice (some ⟨b5, 0, none⟩) (pre.length + 1) c5), (⟨g, 3, none⟩, .slice (some ⟨ub, 0, none⟩) n n)]) rfl (by kernel_rfl) (by kernel_rfl) (by (simp only [Holds_cons, Holds_nil, and_true]); exact ⟨s2, s3⟩) (fun hHeld => ?_)
            refine wpAnyH_take (i := 0) (v := ?_) rfl (by kernel_rfl) (by kernel_rfl) (by kernel_rfl) (fun _ _ _ h => h) (Or.inl ⟨by rfl, ?hyh17⟩) hHeld ?_
            case hyh17 => ((intro wz hSw); (simp only [Holds_cons, Holds_nil, and_true] at hSw); (obtain ⟨_, _⟩ := hSw); go_simp; (try with_reducible rfl))
            (try simp only [List.getElem_toArray, List.getElem_cons_succ, List.getElem_cons_zero, Act.put, List.setIfInBounds_toArray, List.set_cons_zero, List.set_cons_succ])
            refine wpAnyH_take (i := 1) (v := ?_) rfl (by kernel_rfl) (by kernel_rfl) (by kernel_rfl) (fun _ _ _ h => h) (Or.inl ⟨by rfl, ?hyh18⟩) hHeld ?_
            case hyh18 => ((intro wz hSw); (simp only [Holds_cons, Holds_nil, and_true] at hSw); (obtain ⟨_, _⟩ := hSw); go_simp; (try with_reducible rfl))
            (try simp only [List.getElem_toArray, List.getElem_cons_succ, List.getElem_cons_zero, Act.put, List.setIfInBounds_toArray, List.set_cons_zero, List.set_cons_succ])
            refine wpAnyH_take (i := 2) (v := ?_) rfl (by kernel_rfl) (by kernel_rfl) (by kernel_rfl) (fun _ _ _ h => h) (Or.inl ⟨by rfl, ?hyh19⟩) hHeld ?_
            case hyh19 => ((intro wz hSw); (simp only [Holds_cons, Holds_nil, and_true] at hSw); (obtain ⟨_, _⟩ := hSw); go_simp; (try with_reducible rfl))
            (try simp only [List.getElem_toArray, List.getElem_cons_succ, List.getElem_cons_zero, Act.put, List.setIfInBounds_toArray, List.set_cons_zero, List.set_cons_succ])
            refine wpAnyH_take (i := 3) (v := ?_) rfl (by kernel_rfl) (by kernel_rfl) (by kernel_rfl) (fun _ _ _ h => h) (Or.inl ⟨by rfl, ?hyh20⟩) hHeld ?_
            case hyh20 => ((intro wz hSw); (simp only [Holds_cons, Holds_nil, and_true] at hSw); (obtain ⟨_, _⟩ := hSw); go_simp; (try with_reducible rfl))
            (try simp only [List.getElem_toArray, List.getElem_cons_succ, List.getElem_cons_zero, Act.put, List.setIfInBounds_toArray, List.set_cons_zero, List.set_cons_succ])
            refine wpAnyH_take (i := 4) (v := ?_) rfl (by kernel_rfl) (by kernel_rfl) (by kernel_rfl) (fun _ _ _ h => h) (Or.inl ⟨by rfl, ?hyh21⟩) hHeld ?_
            case hyh21 => ((intro wz hSw); (simp only [Holds_cons, Holds_nil, and_true] at hSw); (obtain ⟨_, _⟩ := hSw); go_simp; (try with_reducible rfl))
            (try simp only [List.getElem_toArray, List.getElem_cons_succ, List.getElem_cons_zero, Act.put, List.setIfInBounds_toArray, List.set_cons_zero, List.set_cons_succ])
            refine wpAnyH_take (i := 5) (v := ?_) rfl (by kernel_rfl) (by kernel_rfl) (by kernel_rfl) (fun _ _ _ h => h) (Or.inl ⟨by rfl, ?hyh22⟩) hHeld ?_
            case hyh22 => ((intro wz hSw); (simp only [Holds_cons, Holds_nil, and_true] at hSw); (obtain ⟨_, _⟩ := hSw); go_simp; (try with_reducible rfl))
            (try simp only [List.getElem_toArray, List.getElem_cons_succ, List.getElem_cons_zero, Act.put, List.setIfInBounds_toArray, List.set_cons_zero, List.set_cons_succ])
            refine wpAnyH_take (i := 6) (v := ?_) rfl (by kernel_rfl) (by kernel_rfl) (by kernel_rfl) (fun _ _ _ h => h) (Or.inl ⟨by rfl, ?hyh23⟩) hHeld ?_
            case hyh23 => ((intro wz hSw); (simp only [Holds_cons, Holds_nil, and_true] at hSw); (obtain ⟨_, _⟩ := hSw); go_simp; (try with_reducible rfl))
            (try simp only [List.getElem_toArray, List.getElem_cons_succ, List.getElem_cons_zero, Act.put, List.setIfInBounds_toArray, List.set_cons_zero, List.set_cons_succ])
            refine wpAnyH_take (i := 7) (v := ?_) rfl (by kernel_rfl) (by kernel_rfl) (by kernel_rfl) (fun _ _ _ h => h) (Or.inl ⟨by rfl, ?hyh24⟩) hHeld ?_
            case hyh24 => ((intro wz hSw); (simp only [Holds_cons, Holds_nil, and_true] at hSw); (obtain ⟨_, _⟩ := hSw); go_simp; (try with_reducible rfl))
            (try simp only [List.getElem_toArray, List.getElem_cons_succ, List.getElem_cons_zero, Act.put, List.setIfInBounds_toArray, List.set_cons_zero, List.set_cons_succ])
            refine wpAnyH_take (i := 8) (v := ?_) rfl (by kernel_rfl) (by kernel_rfl) (by kernel_rfl) (fun _ _ _ h => h) (Or.inl ⟨by rfl, ?hyh25⟩) hHeld ?_
            case hyh25 => ((intro wz hSw); (simp only [Holds_cons, Holds_nil, and_true] at hSw); (obtain ⟨_, _⟩ := hSw); go_simp; (try with_reducible rfl))
            (try simp only [List.getElem_toArray, List.getElem_cons_succ, List.getElem_cons_zero, Act.put, List.setIfInBounds_toArray, List.set_cons_zero, List.set_cons_succ])
            refine wpAnyH_take (i := 9) (v := ?_) rfl (by kernel_rfl) (by kernel_rfl) (by kernel_rfl) (fun _ _ _ h => h) (Or.inl ⟨by rfl, ?hyh26⟩) hHeld ?_
            case hyh26 => ((intro wz hSw); (simp only [Holds_cons, Holds_nil, and_true] at hSw); (obtain ⟨_, _⟩ := hSw); go_simp; (try with_reducible rfl))
            (try simp only [List.getElem_toArray, List.getElem_cons_succ, List.getElem_cons_zero, Act.put, List.setIfInBounds_toArray, List.set_cons_zero, List.set_cons_succ])
            refine wpAnyH_take (i := 10) (v := ?_) rfl (by kernel_rfl) (by kernel_rfl) (by kernel_rfl) (fun _ _ _ h => h) (Or.inl ⟨by rfl, ?hyh27⟩) hHeld ?_
            case hyh27 => ((intro wz hSw); (simp only [Holds_cons, Holds_nil, and_true] at hSw); (obtain ⟨_, _⟩ := hSw); go_simp; (try with_reducible rfl))
            (try simp only [List.getElem_toArray, List.getElem_cons_succ, List.getElem_cons_zero, Act.put, List.setIfInBounds_toArray, List.set_cons_zero, List.set_cons_succ])
            refine wpAnyH_take (i := 11) (v := ?_) rfl (by kernel_rfl) (by kernel_rfl) (by kernel_rfl) (fun _ _ _ h => h) (Or.inl ⟨by rfl, ?hyh28⟩) hHeld ?_
            case hyh28 => ((intro wz hSw); (simp only [Holds_cons, Holds_nil, and_true] at hSw); (obtain ⟨_, _⟩ := hSw); go_simp; (try with_reducible rfl))
            (try simp only [List.getElem_toArray, List.getElem_cons_succ, List.getElem_cons_zero, Act.put, List.setIfInBounds_toArray, List.set_cons_zero, List.set_cons_succ])
            refine wpAnyH_take (i := 12) (v := ?_) rfl (by kernel_rfl) (by kernel_rfl) (by kernel_rfl) (fun _ _ _ h => h) (Or.inl ⟨by rfl, ?hyh29⟩) hHeld ?_
            case hyh29 => ((intro wz hSw); (simp only [Holds_cons, Holds_nil, and_true] at hSw); (obtain ⟨_, _⟩ := hSw); go_simp; (try with_reducible rfl))
            (try simp only [List.getElem_toArray, List.getElem_cons_succ, List.getElem_cons_zero, Act.put, List.setIfInBounds_toArray, List.set_cons_zero, List.set_cons_succ])
            refine wpAnyH_ready (rs := [13]) (by kernel_rfl) (by simp) ?_
            refine AllReadyH.cons rfl (fun K hK => ?_) AllReadyH.nil
            go_simp
            refine hK.out _ _ (Holds.far hHeld (p := ⟨ub, j, none⟩) (by intro c hc; simp at hc; rcases hc with rfl | rfl <;> exact hgu2) _) (fun hHeldN => ?_)
            clear hK K hHeld
            have hHeld := hHeldN
            clear hHeldN
            (try simp only [List.getElem_toArray, List.getElem_cons_succ, List.getElem_cons_zero, Act.put, List.setIfInBounds_toArray, List.set_cons_zero, List.set_cons_succ])
            refine wpAnyH_done (by kernel_rfl) ?_ _
            refine LateQ.normal ?_
            refine wpAny_take (i := 14) (v := ?_) rfl (by kernel_rfl) (by kernel_rfl) (by kernel_rfl) (fun _ _ _ h => h) (Or.inl ⟨by rfl, ?hyh30⟩) ?_
            case hyh30 => ((intro wz); go_simp; (try with_reducible rfl))
            (try simp only [List.getElem_toArray, List.getElem_cons_succ, List.getElem_cons_zero, Act.put, List.setIfInBounds_toArray, List.set_cons_zero, List.set_cons_succ])
            refine wpAny_take (i := 15) (v := ?_) rfl (by kernel_rfl) (by kernel_rfl) (by kernel_rfl) (fun _ _ _ h => h) (Or.inl ⟨by rfl, ?hyh31⟩) ?_
            case hyh31 => ((intro wz); go_simp; (try with_reducible rfl))
            (try simp only [List.getElem_toArray, List.getElem_cons_succ, List.getElem_cons_zero, Act.put, List.setIfInBounds_toArray, List.set_cons_zero, List.set_cons_succ])
            refine wpAny_ready (rs := [16]) (by kernel_rfl) (by simp) ?_
            refine AllReady.cons rfl (fun K hK => ?_) AllReady.nil
            go_simp
            (try (refine hK _ _ ?_; clear hK K))
            (try simp only [List.getElem_toArray, List.getElem_cons_succ, List.getElem_cons_zero, Act.put, List.setIfInBounds_toArray, List.set_cons_zero, List.set_cons_succ])
            refine wpAny_done (by kernel_rfl) ?_ _
            clear hHeld
            have HFIN : Hid (Stp w0 g q ub n h (.func (.func kf) #[] #[.pointer (some ⟨q, 0, none⟩)]) U pre (runF F (srch n h (d + 1) U pre l) out) (.returned (.bool false)) (((w5.setCell ⟨ub, j, none⟩ (.bool false)).setCell ⟨g, 2, none⟩ (.slice (some ⟨b5, 0, none⟩) pre.length c5)).drew)) := by
              obtain ⟨rest, e⟩ := spart_pre (n := n) (h := h) (d := d) (U := U) (pre := pre) (l := l) (t + 1) (h - t)
              rw [show t + 1 + (h - t) = h + 1 by omega, ← srch_succ] at e
              rw [e, runF_stop (by rw [HRES.out]), HRES.out]
              exact ⟨rfl, HEND.out⟩
            go_wp2
            go_ret
            exact HFIN.out
          · go_upto_region 11 with fail
            refine wp_region_late 14 3 8 (Holds [(⟨g, 2, none⟩, .slice (some ⟨b5, 0, none⟩) (pre.length + 1) c5), (⟨g, 3, none⟩, .slice (some ⟨ub, 0, none⟩) n n)]) rfl (by kernel_rfl) (by kernel_rfl) (by (simp only [Holds_cons, Holds_nil, and_true]); exact ⟨s2, s3⟩) (fun hHeld => ?_)
            refine wpAnyH_take (i := 0) (v := ?_) rfl (by kernel_rfl) (by kernel_rfl) (by kernel_rfl) (fun _ _ _ h => h) (Or.inl ⟨by rfl, ?hyh32⟩) hHeld ?_
            case hyh32 => ((intro wz hSw); (simp only [Holds_cons, Holds_nil, and_true] at hSw); (obtain ⟨_, _⟩ := hSw); go_simp; (try with_reducible rfl))
            (try simp only [List.getElem_toArray, List.getElem_cons_succ, List.getElem_cons_zero, Act.put, List.setIfInBounds_toArray, List.set_cons_zero, List.set_cons_succ])
            refine wpAnyH_take (i := 1) (v := ?_) rfl (by kernel_rfl) (by kernel_rfl) (by kernel_rfl) (fun _ _ _ h => h) (Or.inl ⟨by rfl, ?hyh33⟩) hHeld ?_
            case hyh33 => ((intro wz hSw); (simp only [Holds_cons, Holds_nil, and_true] at hSw); (obtain ⟨_, _⟩ := hSw); go_simp; (try with_reducible rfl))
            (try simp only [List.getElem_toArray, List.getElem_cons_succ, List.getElem_cons_zero, Act.put, List.setIfInBounds_toArray, List.set_cons_zero, List.set_cons_succ])
            refine wpAnyH_take (i := 2) (v := ?_) rfl (by kernel_rfl) (by kernel_rfl) (by kernel_rfl) (fun _ _ _ h => h) (Or.inl ⟨by rfl, ?hyh34⟩) hHeld ?_
            case hyh34 => ((intro wz hSw); (simp only [Holds_cons, Holds_nil, and_true] at hSw); (obtain ⟨_, _⟩ := hSw); go_simp; (try with_reducible rfl))
            (try simp only [List.getElem_toArray, List.getElem_cons_succ, List.getElem_cons_zero, Act.put, List.setIfInBounds_toArray, List.set_cons_zero, List.set_cons_succ])
            refine wpAnyH_take (i := 3) (v := ?_) rfl (by kernel_rfl) (by kernel_rfl) (by kernel_rfl) (fun _ _ _ h => h) (Or.inl ⟨by rfl, ?hyh35⟩) hHeld ?_
            case hyh35 => ((intro wz hSw); (simp only [Holds_cons, Holds_nil, and_true] at hSw); (obtain ⟨_, _⟩ := hSw); go_simp; (try with_reducible rfl))
            (try simp only [List.getElem_toArray, List.getElem_cons_succ, List.getElem_cons_zero, Act.put, List.setIfInBounds_toArray, List.set_cons_zero, List.set_cons_succ])
            refine wpAnyH_take (i := 4) (v := ?_) rfl (by kernel_rfl) (by kernel_rfl) (by kernel_rfl) (fun _ _ _ h => h) (Or.inl ⟨by rfl, ?hyh36⟩) hHeld ?_
            case hyh36 => ((intro wz hSw); (simp only [Holds_cons, Holds_nil, and_true] at hSw); (obtain ⟨_, _⟩ := hSw); go_simp; (try with_reducible rfl))
            (try simp only [List.getElem_toArray, List.getElem_cons_succ, List.getElem_cons_zero, Act.put, List.setIfInBounds_toArray, List.set_cons_zero, List.set_cons_succ])
            refine wpAnyH_take (i := 5) (v := ?_) rfl (by kernel_rfl) (by kernel_rfl) (by kernel_rfl) (fun _ _ _ h => h) (Or.inl ⟨by rfl, ?hyh37⟩) hHeld ?_
            case hyh37 => ((intro wz hSw); (simp only [Holds_cons, Holds_nil, and_true] at hSw); (obtain ⟨_, _⟩ := hSw); go_simp; (try with_reducible rfl))
            (try simp only [List.getElem_toArray, List.getElem_cons_succ, List.getElem_cons_zero, Act.put, List.setIfInBounds_toArray, List.set_cons_zero, List.set_cons_succ])
            refine wpAnyH_take (i := 6) (v := ?_) rfl (by kernel_rfl) (by kernel_rfl) (by kernel_rfl) (fun _ _ _ h => h) (Or.inl ⟨by rfl, ?hyh38⟩) hHeld ?_
            case hyh38 => ((intro wz hSw); (simp only [Holds_cons, Holds_nil, and_true] at hSw); (obtain ⟨_, _⟩ := hSw); go_simp; (try with_reducible rfl))
            (try simp only [List.getElem_toArray, List.getElem_cons_succ, List.getElem_cons_zero, Act.put, List.setIfInBounds_toArray, List.set_cons_zero, List.set_cons_succ])
            refine wpAnyH_take (i := 7) (v := ?_) rfl (by kernel_rfl) (by kernel_rfl) (by kernel_rfl) (fun _ _ _ h => h) (Or.inl ⟨by rfl, ?hyh39⟩) hHeld ?_
            case hyh39 => ((intro wz hSw); (simp only [Holds_cons, Holds_nil, and_true] at hSw); (obtain ⟨_, _⟩ := hSw); go_simp; (try with_reducible rfl))
            (try simp only [List.getElem_toArray, List.getElem_cons_succ, List.getElem_cons_zero, Act.put, List.setIfInBounds_toArray, List.set_cons_zero, List.set_cons_succ])
            refine wpAnyH_take (i := 8) (v := ?_) rfl (by kernel_rfl) (by kernel_rfl) (by kernel_rfl) (fun _ _ _ h => h) (Or.inl ⟨by rfl, ?hyh40⟩) hHeld ?_
            case hyh40 => ((intro wz hSw); (simp only [Holds_cons, Holds_nil, and_true] at hSw); (obtain ⟨_, _⟩ := hSw); go_simp; (try with_reducible rfl))
            (try simp only [List.getElem_toArray, List.getElem_cons_succ, List.getElem_cons_zero, Act.put, List.setIfInBounds_toArray, List.set_cons_zero, List.set_cons_succ])
            refine wpAnyH_take (i := 9) (v := ?_) rfl (by kernel_rfl) (by kernel_rfl) (by kernel_rfl) (fun _ _ _ h => h) (Or.inl ⟨by rfl, ?hyh41⟩) hHeld ?_
            case hyh41 => ((intro wz hSw); (simp only [Holds_cons, Holds_nil, and_true] at hSw); (obtain ⟨_, _⟩ := hSw); go_simp; (try with_reducible rfl))
            (try simp only [List.getElem_toArray, List.getElem_cons_succ, List.getElem_cons_zero, Act.put, List.setIfInBounds_toArray, List.set_cons_zero, List.set_cons_succ])
            refine wpAnyH_take (i := 10) (v := ?_) rfl (by kernel_rfl) (by kernel_rfl) (by kernel_rfl) (fun _ _ _ h => h) (Or.inl ⟨by rfl, ?hyh42⟩) hHeld ?_
            case hyh42 => ((intro wz hSw); (simp only [Holds_cons, Holds_nil, and_true] at hSw); (obtain ⟨_, _⟩ := hSw); go_simp; (try with_reducible rfl))
            (try simp only [List.getElem_toArray, List.getElem_cons_succ, List.getElem_cons_zero, Act.put, List.setIfInBounds_toArray, List.set_cons_zero, List.set_cons_succ])
            refine wpAnyH_take (i := 11) (v := ?_) rfl (by kernel_rfl) (by kernel_rfl) (by kernel_rfl) (fun _ _ _ h => h) (Or.inl ⟨by rfl, ?hyh43⟩) hHeld ?_
            case hyh43 => ((intro wz hSw); (simp only [Holds_cons, Holds_nil, and_true] at hSw); (obtain ⟨_, _⟩ := hSw); go_simp; (try with_reducible rfl))
            (try simp only [List.getElem_toArray, List.getElem_cons_succ, List.getElem_cons_zero, Act.put, List.setIfInBounds_toArray, List.set_cons_zero, List.set_cons_succ])
            refine wpAnyH_take (i := 12) (v := ?_) rfl (by kernel_rfl) (by kernel_rfl) (by kernel_rfl) (fun _ _ _ h => h) (Or.inl ⟨by rfl, ?hyh44⟩) hHeld ?_
            case hyh44 => ((intro wz hSw); (simp only [Holds_cons, Holds_nil, and_true] at hSw); (obtain ⟨_, _⟩ := hSw); go_simp; (try with_reducible rfl))
            (try simp only [List.getElem_toArray, List.getElem_cons_succ, List.getElem_cons_zero, Act.put, List.setIfInBounds_toArray, List.set_cons_zero, List.set_cons_succ])
            refine wpAnyH_ready (rs := [13]) (by kernel_rfl) (by simp) ?_
            refine AllReadyH.cons rfl (fun K hK => ?_) AllReadyH.nil
            go_simp
            refine hK.out _ _ (Holds.far hHeld (p := ⟨ub, j, none⟩) (by intro c hc; simp at hc; rcases hc with rfl | rfl <;> exact hgu2) _) (fun hHeldN => ?_)
            clear hK K hHeld
            have hHeld := hHeldN
            clear hHeldN
            (try simp only [List.getElem_toArray, List.getElem_cons_succ, List.getElem_cons_zero, Act.put, List.setIfInBounds_toArray, List.set_cons_zero, List.set_cons_succ])
            refine wpAnyH_done (by kernel_rfl) ?_ _
            refine LateQ.normal ?_
            refine wpAny_take (i := 14) (v := ?_) rfl (by kernel_rfl) (by kernel_rfl) (by kernel_rfl) (fun _ _ _ h => h) (Or.inl ⟨by rfl, ?hyh45⟩) ?_
            case hyh45 => ((intro wz); go_simp; (try with_reducible rfl))
            (try simp only [List.getElem_toArray, List.getElem_cons_succ, List.getElem_cons_zero, Act.put, List.setIfInBounds_toArray, List.set_cons_zero, List.set_cons_succ])
            refine wpAny_take (i := 15) (v := ?_) rfl (by kernel_rfl) (by kernel_rfl) (by kernel_rfl) (fun _ _ _ h => h) (Or.inl ⟨by rfl, ?hyh46⟩) ?_
            case hyh46 => ((intro wz); go_simp; (try with_reducible rfl))
            (try simp only [List.getElem_toArray, List.getElem_cons_succ, List.getElem_cons_zero, Act.put, List.setIfInBounds_toArray, List.set_cons_zero, List.set_cons_succ])
            refine wpAny_ready (rs := [16]) (by kernel_rfl) (by simp) ?_
            refine AllReady.cons rfl (fun K hK => ?_) AllReady.nil
            go_simp
            (try (refine hK _ _ ?_; clear hK K))
            (try simp only [List.getElem_toArray, List.getElem_cons_succ, List.getElem_cons_zero, Act.put, List.setIfInBounds_toArray, List.set_cons_zero, List.set_cons_succ])
            refine wpAny_done (by kernel_rfl) ?_ _
            clear hHeld
            have HGO2 : Hid ((runF F (spart n h d U pre l (t + 1)) out).2 = true) := by show _ = _; rw [HRES.out]
            go_wp2
            go_roundw
            case rel => exact ⟨t + 1, by omega, .inl (by omega), by omega, by go_num, by rw [HRES.out]; exact HEND, HGO2⟩
            case measure => simp [intOf]; omega
      · rw [hu] at u0
        have HN : Hid (∀ W, Ext wr W → S58 w0 W g q ub n h (.func (.func kf) #[] #[.pointer (some ⟨q, 0, none⟩)]) U pre (runF F (spart n h d U pre l (t + 1)) out).1) := fun W k => by
          rw [spart_succ, sarm_no (by rw [HJ.out, hu]; simp), List.append_nil]
          exact HL.out.after k
        have HN2 : Hid ((runF F (spart n h d U pre l (t + 1)) out).2 = true) := by
          show _ = _
          rw [spart_succ, sarm_no (by rw [HJ.out, hu]; simp), List.append_nil]
          exact HGO.out
        clear hst hq qf
        go_wp2
        go_roundw
        case rel => exact ⟨t + 1, by omega, .inl (by omega), by omega, by go_num, HN.out _ (by with_reducible (repeat (first | exact Ext.refl _ | apply Ext.drewN | apply Ext.drew | apply Ext.alloc | (refine Ext.set ?_ (by first | (simp; done) | (simp; omega) | omega) _) | (refine Ext.trans ?_ (by assumption))))), HN2⟩
        case measure => simp [intOf]; omega
    · have hmin : ¬ (t : Int) ≤ mn := by rw [← HMN.out]; omega
      have HFIN : Hid (Stp w0 g q ub n h (.func (.func kf) #[] #[.pointer (some ⟨q, 0, none⟩)]) U pre (runF F (srch n h (d + 1) U pre l) out) (.returned (.bool true)) wr) := by
        have e : spart n h d U pre l t = srch n h (d + 1) U pre l := by
          by_cases hth : t ≤ h + 1
          · by_cases htl : (t : Int) ≤ l
            · obtain rfl : t = h + 1 := by omega
              rfl
            · exact (spart_end (by omega) hth).symm
          · rw [srch_succ, spart_low t (by rw [HDI.out]; omega), spart_low (h + 1) (by rw [HDI.out]; omega)]
        rw [← e]
        exact ⟨by rw [HGO.out], HL.out⟩
      clear hst hq qf
      go_wp2
      go_ret
      exact HFIN.out
end Go.Proofs.Ytbldhfmhipdniaa
