/- Contracts of ValidRoutine, the program's and the reference's. No condition. -/
import Derived.Test.YtinkaglngblddaaDoorRtn3
import Derived.Test.YtinkaglngblddaaDoorMea
import Derived.Deep.RegionWith
namespace Go.Proofs.YtinkaglngblddaaDoor
set_option linter.unusedVariables false
set_option linter.unusedSimpArgs false
open Go.RowKit Go.Joins

/-- A part is valid for a height. -/
def vprt (xs : List Int) (t h : Int) : Bool := vpat xs && (decide (hig xs xs.length ≤ h) && btw t 1 20)
theorem vprt_pat {xs : List Int} {t h : Int} (k : vprt xs t h = true) : vpat xs = true := by
  unfold vprt at k
  simp only [Bool.and_eq_true] at k
  exact k.1
/-- A routine is valid. -/
def vrt (h : Int) (ps : List (List Int × Int)) : Prop :=
  btw h 1 10 = true ∧ btw ps.length 1 8 = true ∧ ∀ i, i < ps.length → vprt (pt ps i) (tm ps i) h = true ∧ prp (pt ps i) = prp (pt ps 0)
theorem no_of {v : Bool} {p : Prop} (h : v = true ↔ p) (k : ¬ p) : v = false := by
  cases v
  · rfl
  · exact absurd (h.1 rfl) k
set_option maxHeartbeats 1000000 in
theorem validPart_is (B : Option Addr) (m c : Nat) (xs : List Int) (t h : Int) (w : World) (hI : Ints w B m xs) (v : Bool) (hv : vprt xs t h = v) :
    Calls Tryd.prog 55 #[.agg #[.slice B m c, .int .i64 t], .int .i64 h] w fun e w' => e = .returned (.bool v) ∧ Ext w w' := by
  have HW := Lib.hid hv
  clear hv
  cases hp : vpat xs
  · have HR : Hid (vprt xs t h = false) := by show _ = _; unfold vprt; rw [hp]; rfl
    go_enter Tryd.func55, Tryd.ntmps55
    go_wp2_with fail
    (with_reducible refine (ValidPattern_is B m c xs false hp _ (hI.ext (by with_reducible (repeat (first | exact Ext.refl _ | apply Ext.drewN | apply Ext.drew | apply Ext.alloc | (refine Ext.set ?_ (by first | (simp; done) | (simp; omega) | omega) _) | (refine Ext.trans ?_ (by assumption))))))).mono ?_)
    rintro e w1 ⟨rfl, hx⟩
    go_wp2
    go_ret
    exact ⟨ret_bool (HR.out.symm.trans HW.out), Ext.trans (by with_reducible (repeat (first | exact Ext.refl _ | apply Ext.drewN | apply Ext.drew | apply Ext.alloc | (refine Ext.set ?_ (by first | (simp; done) | (simp; omega) | omega) _) | (refine Ext.trans ?_ (by assumption))))) hx⟩
  · have HP := Lib.hid hp
    clear hp
    obtain ⟨y, hy⟩ : ∃ y, hig xs m = y := ⟨_, rfl⟩
    have hlen := hI.len
    have HY : Hid (hig xs xs.length = y) := by show _ = _; rw [hlen]; exact hy
    have HYM := Lib.hid hy
    clear hy
    have ch := fun W hW => highest_any B m c xs W hW HP.out
    rw [HYM.out] at ch
    have CH := Lib.hid ch
    clear ch
    by_cases hle : y ≤ h
    · cases hb : btw t 1 20
      · have HR : Hid (vprt xs t h = false) := by show _ = _; unfold vprt; rw [hb]; simp
        go_enter Tryd.func55, Tryd.ntmps55
        go_wp2_with fail
        (with_reducible refine (ValidPattern_is B m c xs true HP.out _ (hI.ext (by with_reducible (repeat (first | exact Ext.refl _ | apply Ext.drewN | apply Ext.drew | apply Ext.alloc | (refine Ext.set ?_ (by first | (simp; done) | (simp; omega) | omega) _) | (refine Ext.trans ?_ (by assumption))))))).mono ?_)
        rintro e w1 ⟨rfl, hx⟩
        have hz := hx.size
        (try simp at hz)
        have hq : w.heap.size < w1.heap.size := by omega
        have hc : ∀ o, w1.cell? ⟨w.heap.size, o, none⟩ = _ := fun o => hx.cells.1 _ o (by first | (simp; done) | (simp; omega) | omega)
        have hI1 := hI.ext (Ext.trans (by with_reducible (repeat (first | exact Ext.refl _ | apply Ext.drewN | apply Ext.drew | apply Ext.alloc | (refine Ext.set ?_ (by first | (simp; done) | (simp; omega) | omega) _) | (refine Ext.trans ?_ (by assumption))))) hx)
        go_wp2_with (first | (go_at_call 79; (with_reducible refine (CH.out _ hI1).mono ?_); rintro e w' ⟨rfl, rfl⟩) | (go_at_call 58; (with_reducible refine (between_is _ _ _ _ hb _).mono ?_); rintro e w' ⟨rfl, rfl⟩))
        go_ret
        exact ⟨ret_bool (HR.out.symm.trans HW.out), Ext.trans (by with_reducible (repeat (first | exact Ext.refl _ | apply Ext.drewN | apply Ext.drew | apply Ext.alloc | (refine Ext.set ?_ (by first | (simp; done) | (simp; omega) | omega) _) | (refine Ext.trans ?_ (by assumption))))) hx⟩
      · have HR : Hid (vprt xs t h = true) := by show _ = _; unfold vprt; rw [hb, HP.out, HY.out, decide_eq_true hle]; rfl
        go_enter Tryd.func55, Tryd.ntmps55
        go_wp2_with fail
        (with_reducible refine (ValidPattern_is B m c xs true HP.out _ (hI.ext (by with_reducible (repeat (first | exact Ext.refl _ | apply Ext.drewN | apply Ext.drew | apply Ext.alloc | (refine Ext.set ?_ (by first | (simp; done) | (simp; omega) | omega) _) | (refine Ext.trans ?_ (by assumption))))))).mono ?_)
        rintro e w1 ⟨rfl, hx⟩
        have hz := hx.size
        (try simp at hz)
        have hq : w.heap.size < w1.heap.size := by omega
        have hc : ∀ o, w1.cell? ⟨w.heap.size, o, none⟩ = _ := fun o => hx.cells.1 _ o (by first | (simp; done) | (simp; omega) | omega)
        have hI1 := hI.ext (Ext.trans (by with_reducible (repeat (first | exact Ext.refl _ | apply Ext.drewN | apply Ext.drew | apply Ext.alloc | (refine Ext.set ?_ (by first | (simp; done) | (simp; omega) | omega) _) | (refine Ext.trans ?_ (by assumption))))) hx)
        go_wp2_with (first | (go_at_call 79; (with_reducible refine (CH.out _ hI1).mono ?_); rintro e w' ⟨rfl, rfl⟩) | (go_at_call 58; (with_reducible refine (between_is _ _ _ _ hb _).mono ?_); rintro e w' ⟨rfl, rfl⟩))
        go_ret
        exact ⟨ret_bool (HR.out.symm.trans HW.out), Ext.trans (by with_reducible (repeat (first | exact Ext.refl _ | apply Ext.drewN | apply Ext.drew | apply Ext.alloc | (refine Ext.set ?_ (by first | (simp; done) | (simp; omega) | omega) _) | (refine Ext.trans ?_ (by assumption))))) hx⟩
    · have HR : Hid (vprt xs t h = false) := by show _ = _; unfold vprt; rw [HY.out, decide_eq_false hle]; simp
      go_enter Tryd.func55, Tryd.ntmps55
      go_wp2_with fail
      (with_reducible refine (ValidPattern_is B m c xs true HP.out _ (hI.ext (by with_reducible (repeat (first | exact Ext.refl _ | apply Ext.drewN | apply Ext.drew | apply Ext.alloc | (refine Ext.set ?_ (by first | (simp; done) | (simp; omega) | omega) _) | (refine Ext.trans ?_ (by assumption))))))).mono ?_)
      rintro e w1 ⟨rfl, hx⟩
      have hz := hx.size
      (try simp at hz)
      have hq : w.heap.size < w1.heap.size := by omega
      have hc : ∀ o, w1.cell? ⟨w.heap.size, o, none⟩ = _ := fun o => hx.cells.1 _ o (by first | (simp; done) | (simp; omega) | omega)
      have hI1 := hI.ext (Ext.trans (by with_reducible (repeat (first | exact Ext.refl _ | apply Ext.drewN | apply Ext.drew | apply Ext.alloc | (refine Ext.set ?_ (by first | (simp; done) | (simp; omega) | omega) _) | (refine Ext.trans ?_ (by assumption))))) hx)
      go_wp2_with (first | (go_at_call 79; (with_reducible refine (CH.out _ hI1).mono ?_); rintro e w' ⟨rfl, rfl⟩))
      go_ret
      exact ⟨ret_bool (HR.out.symm.trans HW.out), Ext.trans (by with_reducible (repeat (first | exact Ext.refl _ | apply Ext.drewN | apply Ext.drew | apply Ext.alloc | (refine Ext.set ?_ (by first | (simp; done) | (simp; omega) | omega) _) | (refine Ext.trans ?_ (by assumption))))) hx⟩
theorem isHeight_is (h : Int) (w : World) (v : Bool) (hv : btw h 1 10 = v) :
    Calls Tryd.prog 57 #[.int .i64 h] w fun e w' => e = .returned (.bool v) ∧ w = w' := by
  go_enter Tryd.func57, Tryd.ntmps57
  go_wp2_with (first | (go_at_call 58; (with_reducible refine (between_is _ _ _ _ hv _).mono ?_); rintro e w' ⟨rfl, rfl⟩))
  go_ret
  exact ⟨rfl, rfl⟩
set_option maxHeartbeats 4000000 in
set_option maxRecDepth 100000 in
theorem implValidRoutine_is (A : Option Addr) (n c : Nat) (ps : List (List Int × Int)) (h : Int) (w : World) (hP : Parts w A n ps) (v : Bool) (hv : v = true ↔ vrt h ps) :
    Calls Tryd.prog 25 #[.agg #[.int .i64 h, .slice A n c]] w fun e w' => e = .returned (.bool v) ∧ Ext w w' := by
  have hs := hP.small
  have HVR := Lib.hid hv
  have HLN := Lib.hid hP.len
  clear hv
  go_enter Tryd.func25, Tryd.ntmps25
  go_wp2
  go_loopw [4, 8] (fun _ i wr => ∃ k : Nat, k ≤ n ∧ i = .int .i64 k ∧ Ext (w.alloc (.cells #[.int .i64 h, .slice A n c] 29)) wr ∧ ∀ j, j < k → vprt (pt ps j) (tm ps j) h = true ∧ prp (pt ps j) = prp (pt ps 0)) (fun _ i _ => n - (intOf i).toNat)
  case atStart => exact ⟨0, Nat.zero_le _, rfl, Ext.refl _, fun j h => absurd h (by omega)⟩
  case round =>
    obtain ⟨k, hk, rfl, hx0, hall⟩ := hrel
    have HA := Lib.hid hall
    clear hall
    have hz := hx0.size
    (try simp at hz)
    have hx : Ext w wr := Ext.trans (by with_reducible (repeat (first | exact Ext.refl _ | apply Ext.drewN | apply Ext.drew | apply Ext.alloc | (refine Ext.set ?_ (by first | (simp; done) | (simp; omega) | omega) _) | (refine Ext.trans ?_ (by assumption))))) hx0
    have g0 : w.heap.size < wr.heap.size := by omega
    have a0 : wr.cell? ⟨w.heap.size, 0, none⟩ = some (.int .i64 h) := hx0.cell (by first | (simp; done) | (simp; omega)) (by simp)
    have a1 : wr.cell? ⟨w.heap.size, 1, none⟩ = some (.slice A n c) := hx0.cell (by first | (simp; done) | (simp; omega)) (by simp)
    by_cases hlt : k < n
    · obtain ⟨b, off, hA, hb, hcell⟩ := (hP.ext hx).at_ (by omega)
      subst hA
      obtain ⟨B1, m1, d1, c0, c1, I1⟩ := hcell k hlt
      obtain ⟨B0, m0, d0, e0, _, I0⟩ := hcell 0 (by omega)
      rw [Nat.zero_mul, Nat.add_zero] at e0
      have i1 : (k : Int) < n := by omega
      have i0 : (0 : Int) < n := by omega
      have i0n : 0 < n := by omega
      clear hcell
      obtain ⟨t, ht⟩ : ∃ t, tm ps k = t := ⟨_, rfl⟩
      have HT := Lib.hid ht
      rw [ht] at c1
      clear ht
      cases hvp : vprt (pt ps k) t h
      · have HVP := Lib.hid hvp
        clear hvp
        have HF : Hid (v = false) := no_of HVR.out (fun e => by
          have h1 := (e.2.2 k (by rw [HLN.out]; exact hlt)).1
          rw [HT.out, HVP.out] at h1
          cases h1)
        go_wp2
        refine wp_region_any (by kernel_rfl) ?_
        (try (change wpAny _ _ _ _ _ _ _ (World.drew _)))
        refine wpAny_take (i := 1) (v := ?_) rfl (by kernel_rfl) (by kernel_rfl) (by kernel_rfl) (fun _ _ _ h => h) (Or.inl ⟨by rfl, ?hy1⟩) ?_
        case hy1 => ((intro w; go_simp); (try with_reducible rfl))
        (try simp only [List.getElem_toArray, List.getElem_cons_succ, List.getElem_cons_zero, Act.put, List.setIfInBounds_toArray, List.set_cons_zero, List.set_cons_succ])
        refine wpAny_ready (rs := [0, 2]) (by kernel_rfl) (by simp) ?_
        refine AllReady.cons rfl (fun K hK => ?_) (AllReady.cons rfl (fun K hK => ?_) AllReady.nil)
        focus (go_simp; (try (refine hK _ _ ?_; clear hK K)); (try simp only [List.getElem_toArray, List.getElem_cons_succ, List.getElem_cons_zero, Act.put, List.setIfInBounds_toArray, List.set_cons_zero, List.set_cons_succ]); refine wpAny_ready (rs := [2]) (by kernel_rfl) (by simp) ?_; refine AllReady.cons rfl (fun K hK => ?_) AllReady.nil; go_simp; (try (refine hK _ _ ?_; clear hK K)); (try simp only [List.getElem_toArray, List.getElem_cons_succ, List.getElem_cons_zero, Act.put, List.setIfInBounds_toArray, List.set_cons_zero, List.set_cons_succ]))
        rotate_left
        focus (go_simp; (try (refine hK _ _ ?_; clear hK K)); (try simp only [List.getElem_toArray, List.getElem_cons_succ, List.getElem_cons_zero, Act.put, List.setIfInBounds_toArray, List.set_cons_zero, List.set_cons_succ]); refine wpAny_ready (rs := [0]) (by kernel_rfl) (by simp) ?_; refine AllReady.cons rfl (fun K hK => ?_) AllReady.nil; go_simp; (try (refine hK _ _ ?_; clear hK K)); (try simp only [List.getElem_toArray, List.getElem_cons_succ, List.getElem_cons_zero, Act.put, List.setIfInBounds_toArray, List.set_cons_zero, List.set_cons_succ]))
        rotate_left
        all_goals (refine wpAny_ready (rs := [3]) (by kernel_rfl) (by simp) ?_; refine AllReady.cons rfl (fun K hK => ?_) AllReady.nil)
        all_goals go_simp
        all_goals (go_wp2_with (first | (go_at_call 55; (with_reducible refine (validPart_is B1 m1 d1 _ t h _ (I1.ext (by with_reducible (repeat (first | exact Ext.refl _ | apply Ext.drewN | apply Ext.drew | apply Ext.alloc | (refine Ext.set ?_ (by first | (simp; done) | (simp; omega) | omega) _) | (refine Ext.trans ?_ (by assumption)))))) false HVP.out).mono ?_); rintro e w2 ⟨rfl, hx2⟩)))
        all_goals (try (refine hK _ _ ?_; clear hK K))
        all_goals ((try simp only [List.getElem_toArray, List.getElem_cons_succ, List.getElem_cons_zero, Act.put, List.setIfInBounds_toArray, List.set_cons_zero, List.set_cons_succ]))
        all_goals (refine wpAny_take (i := 4) (v := ?_) rfl (by kernel_rfl) (by kernel_rfl) (by kernel_rfl) (fun _ _ _ h => h) (Or.inl ⟨by rfl, ?hy2⟩) ?_; case hy2 => ((intro w; go_simp); (try with_reducible rfl)))
        all_goals ((try simp only [List.getElem_toArray, List.getElem_cons_succ, List.getElem_cons_zero, Act.put, List.setIfInBounds_toArray, List.set_cons_zero, List.set_cons_succ]))
        all_goals (refine wpAny_take (i := 5) (v := ?_) rfl (by kernel_rfl) (by kernel_rfl) (by kernel_rfl) (fun _ _ _ h => h) (Or.inl ⟨by rfl, ?hy3⟩) ?_; case hy3 => ((intro w; go_simp); (try with_reducible rfl)))
        all_goals ((try simp only [List.getElem_toArray, List.getElem_cons_succ, List.getElem_cons_zero, Act.put, List.setIfInBounds_toArray, List.set_cons_zero, List.set_cons_succ]))
        all_goals (refine wpAny_take (i := 6) (v := undef) rfl (by kernel_rfl) (by kernel_rfl) (by kernel_rfl) (fun _ _ _ h => h) (Or.inr ⟨by rfl, rfl⟩) ?_)
        all_goals ((try simp only [List.getElem_toArray, List.getElem_cons_succ, List.getElem_cons_zero, Act.put, List.setIfInBounds_toArray, List.set_cons_zero, List.set_cons_succ]))
        all_goals (refine wpAny_take (i := 7) (v := undef) rfl (by kernel_rfl) (by kernel_rfl) (by kernel_rfl) (fun _ _ _ h => h) (Or.inr ⟨by rfl, rfl⟩) ?_)
        all_goals ((try simp only [List.getElem_toArray, List.getElem_cons_succ, List.getElem_cons_zero, Act.put, List.setIfInBounds_toArray, List.set_cons_zero, List.set_cons_succ]))
        all_goals (refine wpAny_take (i := 8) (v := undef) rfl (by kernel_rfl) (by kernel_rfl) (by kernel_rfl) (fun _ _ _ h => h) (Or.inr ⟨by rfl, rfl⟩) ?_)
        all_goals ((try simp only [List.getElem_toArray, List.getElem_cons_succ, List.getElem_cons_zero, Act.put, List.setIfInBounds_toArray, List.set_cons_zero, List.set_cons_succ]))
        all_goals (refine wpAny_take (i := 9) (v := undef) rfl (by kernel_rfl) (by kernel_rfl) (by kernel_rfl) (fun _ _ _ h => h) (Or.inr ⟨by rfl, rfl⟩) ?_)
        all_goals ((try simp only [List.getElem_toArray, List.getElem_cons_succ, List.getElem_cons_zero, Act.put, List.setIfInBounds_toArray, List.set_cons_zero, List.set_cons_succ]))
        all_goals (refine wpAny_take (i := 10) (v := undef) rfl (by kernel_rfl) (by kernel_rfl) (by kernel_rfl) (fun _ _ _ h => h) (Or.inr ⟨by rfl, rfl⟩) ?_)
        all_goals ((try simp only [List.getElem_toArray, List.getElem_cons_succ, List.getElem_cons_zero, Act.put, List.setIfInBounds_toArray, List.set_cons_zero, List.set_cons_succ]))
        all_goals (refine wpAny_take (i := 11) (v := undef) rfl (by kernel_rfl) (by kernel_rfl) (by kernel_rfl) (fun _ _ _ h => h) (Or.inr ⟨by rfl, rfl⟩) ?_)
        all_goals ((try simp only [List.getElem_toArray, List.getElem_cons_succ, List.getElem_cons_zero, Act.put, List.setIfInBounds_toArray, List.set_cons_zero, List.set_cons_succ]))
        all_goals (refine wpAny_take (i := 12) (v := undef) rfl (by kernel_rfl) (by kernel_rfl) (by kernel_rfl) (fun _ _ _ h => h) (Or.inr ⟨by rfl, rfl⟩) ?_)
        all_goals ((try simp only [List.getElem_toArray, List.getElem_cons_succ, List.getElem_cons_zero, Act.put, List.setIfInBounds_toArray, List.set_cons_zero, List.set_cons_succ]))
        all_goals (refine wpAny_take (i := 13) (v := undef) rfl (by kernel_rfl) (by kernel_rfl) (by kernel_rfl) (fun _ _ _ h => h) (Or.inr ⟨by rfl, rfl⟩) ?_)
        all_goals ((try simp only [List.getElem_toArray, List.getElem_cons_succ, List.getElem_cons_zero, Act.put, List.setIfInBounds_toArray, List.set_cons_zero, List.set_cons_succ]))
        all_goals (refine wpAny_take (i := 14) (v := undef) rfl (by kernel_rfl) (by kernel_rfl) (by kernel_rfl) (fun _ _ _ h => h) (Or.inr ⟨by rfl, rfl⟩) ?_)
        all_goals ((try simp only [List.getElem_toArray, List.getElem_cons_succ, List.getElem_cons_zero, Act.put, List.setIfInBounds_toArray, List.set_cons_zero, List.set_cons_succ]))
        all_goals (refine wpAny_take (i := 15) (v := undef) rfl (by kernel_rfl) (by kernel_rfl) (by kernel_rfl) (fun _ _ _ h => h) (Or.inr ⟨by rfl, rfl⟩) ?_)
        all_goals ((try simp only [List.getElem_toArray, List.getElem_cons_succ, List.getElem_cons_zero, Act.put, List.setIfInBounds_toArray, List.set_cons_zero, List.set_cons_succ]))
        all_goals (refine wpAny_take (i := 16) (v := ?_) rfl (by kernel_rfl) (by kernel_rfl) (by kernel_rfl) (fun _ _ _ h => h) (Or.inl ⟨by rfl, ?hy4⟩) ?_; case hy4 => ((intro w; go_simp); (try with_reducible rfl)))
        all_goals ((try simp only [List.getElem_toArray, List.getElem_cons_succ, List.getElem_cons_zero, Act.put, List.setIfInBounds_toArray, List.set_cons_zero, List.set_cons_succ]))
        all_goals (refine wpAny_done (by kernel_rfl) ?_ _)
        all_goals
          go_wp2
          go_ret
          exact ⟨ret_bool HF.out.symm, (by with_reducible (repeat (first | exact Ext.refl _ | apply Ext.drewN | apply Ext.drew | apply Ext.alloc | (refine Ext.set ?_ (by first | (simp; done) | (simp; omega) | omega) _) | (refine Ext.trans ?_ (by assumption)))))⟩
      · have HVP := Lib.hid hvp
        clear hvp
        have HP1 : Hid (vpat (pt ps k) = true) := vprt_pat HVP.out
        have HP0 : Hid (vpat (pt ps 0) = true) := by
          show _ = _
          rcases Nat.eq_zero_or_pos k with hk0 | hk0
          · rw [← hk0]; exact HP1.out
          · exact vprt_pat (HA.out 0 hk0).1
        have cp1 := fun W hW => propsOf_is B1 m1 d1 (pt ps k) W hW HP1.out
        have cp0 := fun W hW => propsOf_is B0 m0 d0 (pt ps 0) W hW HP0.out
        by_cases hpq : prp (pt ps k) = prp (pt ps 0)
        · have HA2 : Hid (∀ j, j < k + 1 → vprt (pt ps j) (tm ps j) h = true ∧ prp (pt ps j) = prp (pt ps 0)) := fun j hj => by
            by_cases e : j = k
            · rw [e]; exact ⟨by rw [HT.out]; exact HVP.out, hpq⟩
            · exact HA.out j (by omega)
          rw [hpq] at cp1
          clear hpq
          obtain ⟨p, hp⟩ : ∃ p, prp (pt ps 0) = p := ⟨_, rfl⟩
          rw [hp] at cp0 cp1
          clear hp
          have CP1 := Lib.hid cp1
          have CP0 := Lib.hid cp0
          clear cp1 cp0
          go_wp2
          go_region_held3 (fun wz => wz.cell? ⟨w.heap.size, 0, none⟩ = some (.int .i64 h) ∧ wz.cell? ⟨w.heap.size, 1, none⟩ = some (.slice (some ⟨b, off, none⟩) n c) ∧ wz.cell? ⟨wr.heap.size, 0, none⟩ = some (.slice B1 m1 d1) ∧ wz.cell? ⟨wr.heap.size, 1, none⟩ = some (.int .i64 t) ∧ wz.cell? ⟨b, off, none⟩ = some (.slice B0 m0 d0)) (go_keep)
            (first | (go_at_call 55; (with_reducible refine (validPart_is B1 m1 d1 _ t h _ (I1.ext (by with_reducible (repeat (first | exact Ext.refl _ | apply Ext.drewN | apply Ext.drew | apply Ext.alloc | (refine Ext.set ?_ (by first | (simp; done) | (simp; omega) | omega) _) | (refine Ext.trans ?_ (by assumption)))))) true HVP.out).mono ?_); rintro e w2 ⟨rfl, hx_w2⟩; have hz_w2 := hx_w2.size; (try simp at hz_w2); (have hq0_w2 : w.heap.size < w2.heap.size := by omega); (have hc0_w2 : ∀ o, w2.cell? ⟨w.heap.size, o, none⟩ = _ := fun o => hx_w2.cells.1 _ o (by first | (simp; done) | (simp; omega) | omega)); (have hq1_w2 : wr.heap.size < w2.heap.size := by omega); (have hc1_w2 : ∀ o, w2.cell? ⟨wr.heap.size, o, none⟩ = _ := fun o => hx_w2.cells.1 _ o (by first | (simp; done) | (simp; omega) | omega)); (have hq2_w2 : b < w2.heap.size := by omega); (have hc2_w2 : ∀ o, w2.cell? ⟨b, o, none⟩ = _ := fun o => hx_w2.cells.1 _ o (by first | (simp; done) | (simp; omega) | omega))) | (go_at_call 56; (with_reducible refine (CP1.out _ (I1.ext (by with_reducible (repeat (first | exact Ext.refl _ | apply Ext.drewN | apply Ext.drew | apply Ext.alloc | (refine Ext.set ?_ (by first | (simp; done) | (simp; omega) | omega) _) | (refine Ext.trans ?_ (by assumption))))))).mono ?_); rintro e w' ⟨rfl, rfl⟩) | (go_at_call 56; (with_reducible refine (CP0.out _ (I0.ext (by with_reducible (repeat (first | exact Ext.refl _ | apply Ext.drewN | apply Ext.drew | apply Ext.alloc | (refine Ext.set ?_ (by first | (simp; done) | (simp; omega) | omega) _) | (refine Ext.trans ?_ (by assumption))))))).mono ?_); rintro e w' ⟨rfl, rfl⟩))
          go_wp2
          go_roundw
          case rel => exact ⟨k + 1, by omega, by go_num, hx0.trans (by with_reducible (repeat (first | exact Ext.refl _ | apply Ext.drewN | apply Ext.drew | apply Ext.alloc | (refine Ext.set ?_ (by first | (simp; done) | (simp; omega) | omega) _) | (refine Ext.trans ?_ (by assumption))))), HA2.out⟩
          case measure => simp [intOf]; omega
        · have HF : Hid (v = false) := no_of HVR.out (fun e => hpq (e.2.2 k (by rw [HLN.out]; exact hlt)).2)
          have hne : (prp (pt ps k) != prp (pt ps 0)) = true := by simpa using hpq
          clear hpq
          obtain ⟨p, hp⟩ : ∃ p, prp (pt ps k) = p := ⟨_, rfl⟩
          obtain ⟨p0, hp0⟩ : ∃ p, prp (pt ps 0) = p := ⟨_, rfl⟩
          rw [hp] at cp1 hne
          rw [hp0] at cp0 hne
          clear hp hp0
          have CP1 := Lib.hid cp1
          have CP0 := Lib.hid cp0
          clear cp1 cp0
          go_wp2
          go_region_held3 (fun wz => wz.cell? ⟨w.heap.size, 0, none⟩ = some (.int .i64 h) ∧ wz.cell? ⟨w.heap.size, 1, none⟩ = some (.slice (some ⟨b, off, none⟩) n c) ∧ wz.cell? ⟨wr.heap.size, 0, none⟩ = some (.slice B1 m1 d1) ∧ wz.cell? ⟨wr.heap.size, 1, none⟩ = some (.int .i64 t) ∧ wz.cell? ⟨b, off, none⟩ = some (.slice B0 m0 d0)) (go_keep)
            (first | (go_at_call 55; (with_reducible refine (validPart_is B1 m1 d1 _ t h _ (I1.ext (by with_reducible (repeat (first | exact Ext.refl _ | apply Ext.drewN | apply Ext.drew | apply Ext.alloc | (refine Ext.set ?_ (by first | (simp; done) | (simp; omega) | omega) _) | (refine Ext.trans ?_ (by assumption)))))) true HVP.out).mono ?_); rintro e w2 ⟨rfl, hx_w2⟩; have hz_w2 := hx_w2.size; (try simp at hz_w2); (have hq0_w2 : w.heap.size < w2.heap.size := by omega); (have hc0_w2 : ∀ o, w2.cell? ⟨w.heap.size, o, none⟩ = _ := fun o => hx_w2.cells.1 _ o (by first | (simp; done) | (simp; omega) | omega)); (have hq1_w2 : wr.heap.size < w2.heap.size := by omega); (have hc1_w2 : ∀ o, w2.cell? ⟨wr.heap.size, o, none⟩ = _ := fun o => hx_w2.cells.1 _ o (by first | (simp; done) | (simp; omega) | omega)); (have hq2_w2 : b < w2.heap.size := by omega); (have hc2_w2 : ∀ o, w2.cell? ⟨b, o, none⟩ = _ := fun o => hx_w2.cells.1 _ o (by first | (simp; done) | (simp; omega) | omega))) | (go_at_call 56; (with_reducible refine (CP1.out _ (I1.ext (by with_reducible (repeat (first | exact Ext.refl _ | apply Ext.drewN | apply Ext.drew | apply Ext.alloc | (refine Ext.set ?_ (by first | (simp; done) | (simp; omega) | omega) _) | (refine Ext.trans ?_ (by assumption))))))).mono ?_); rintro e w' ⟨rfl, rfl⟩) | (go_at_call 56; (with_reducible refine (CP0.out _ (I0.ext (by with_reducible (repeat (first | exact Ext.refl _ | apply Ext.drewN | apply Ext.drew | apply Ext.alloc | (refine Ext.set ?_ (by first | (simp; done) | (simp; omega) | omega) _) | (refine Ext.trans ?_ (by assumption))))))).mono ?_); rintro e w' ⟨rfl, rfl⟩))
          go_wp2
          go_ret
          exact ⟨ret_bool HF.out.symm, (by with_reducible (repeat (first | exact Ext.refl _ | apply Ext.drewN | apply Ext.drew | apply Ext.alloc | (refine Ext.set ?_ (by first | (simp; done) | (simp; omega) | omega) _) | (refine Ext.trans ?_ (by assumption)))))⟩
    · obtain rfl : k = n := by omega
      cases hb1 : btw h 1 10
      · have HF : Hid (v = false) := no_of HVR.out (fun e => by have := e.1; rw [hb1] at this; cases this)
        go_wp2_with (first | (go_at_call 57; (with_reducible refine (isHeight_is _ _ _ hb1).mono ?_); rintro e w' ⟨rfl, rfl⟩))
        go_ret
        exact ⟨ret_bool HF.out.symm, hx⟩
      · cases hb2 : btw k 1 8
        · have HF : Hid (v = false) := no_of HVR.out (fun e => by have := e.2.1; rw [HLN.out, hb2] at this; cases this)
          go_wp2_with (first | (go_at_call 57; (with_reducible refine (isHeight_is _ _ _ hb1).mono ?_); rintro e w' ⟨rfl, rfl⟩) | (go_at_call 58; (with_reducible refine (between_is _ _ _ _ hb2 _).mono ?_); rintro e w' ⟨rfl, rfl⟩))
          go_ret
          exact ⟨ret_bool HF.out.symm, hx⟩
        · have HF : Hid (v = true) := HVR.out.2 ⟨hb1, by rw [HLN.out]; exact hb2, fun i hi => HA.out i (by rw [HLN.out] at hi; exact hi)⟩
          go_wp2_with (first | (go_at_call 57; (with_reducible refine (isHeight_is _ _ _ hb1).mono ?_); rintro e w' ⟨rfl, rfl⟩) | (go_at_call 58; (with_reducible refine (between_is _ _ _ _ hb2 _).mono ?_); rintro e w' ⟨rfl, rfl⟩))
          go_ret
          exact ⟨ret_bool HF.out.symm, hx⟩
theorem l08Height_is (h : Int) (w : World) (v : Bool) (hv : btw h 1 10 = v) :
    Calls Tryd.prog 48 #[.int .i64 h] w fun e w' => e = .returned (.bool v) ∧ w = w' := by
  go_enter Tryd.func48, Tryd.ntmps48
  go_wp2_with (first | (go_at_call 49; (with_reducible refine (l00In_is _ _ _ _ hv _).mono ?_); rintro e w' ⟨rfl, rfl⟩))
  go_ret
  exact ⟨rfl, rfl⟩
set_option maxHeartbeats 1000000 in
theorem l19Part_is (b o : Nat) (B : Option Addr) (m c : Nat) (xs : List Int) (t h : Int) (w : World) (c0 : w.cell? ⟨b, o, none⟩ = some (.slice B m c)) (c1 : w.cell? ⟨b, o + 1, none⟩ = some (.int .i64 t)) (hI : Ints w B m xs) (v : Bool) (hv : vprt xs t h = v) :
    Calls Tryd.prog 50 #[.pointer (some ⟨b, o, none⟩), .int .i64 h] w fun e w' => e = .returned (.bool v) ∧ Qt w w' := by
  have HW := Lib.hid hv
  clear hv
  cases hp : vpat xs
  · have HR : Hid (vprt xs t h = false) := by show _ = _; unfold vprt; rw [hp]; rfl
    go_enter Tryd.func50, Tryd.ntmps50
    go_wp2_with (first | (go_at_call 75; (with_reducible refine (l02Ok_is B m c xs false hp _ hI).mono ?_); rintro e w' ⟨rfl, n, rfl⟩))
    go_ret
    exact ⟨ret_bool (HR.out.symm.trans HW.out), (by first | exact ⟨_, rfl⟩ | exact ⟨_, World.drewN_drewN _ _ _⟩)⟩
  · have HP := Lib.hid hp
    clear hp
    obtain ⟨y, hy⟩ : ∃ y, hig xs m = y := ⟨_, rfl⟩
    have hlen := hI.len
    have HY : Hid (hig xs xs.length = y) := by show _ = _; rw [hlen]; exact hy
    have HYM := Lib.hid hy
    clear hy
    have ch := fun W hW => l02High_any B m c xs W hW HP.out
    rw [HYM.out] at ch
    have CH := Lib.hid ch
    clear ch
    by_cases hle : y ≤ h
    · cases hb : btw t 1 20
      · have HR : Hid (vprt xs t h = false) := by show _ = _; unfold vprt; rw [hb]; simp
        go_enter Tryd.func50, Tryd.ntmps50
        go_wp2_with (first | (go_at_call 75; (with_reducible refine (l02Ok_is B m c xs true HP.out _ hI).mono ?_); rintro e w' ⟨rfl, n, rfl⟩) | (go_at_call 76; (with_reducible refine (CH.out _ (hI.ext (by with_reducible (repeat (first | exact Ext.refl _ | apply Ext.drewN | apply Ext.drew | apply Ext.alloc | (refine Ext.set ?_ (by first | (simp; done) | (simp; omega) | omega) _) | (refine Ext.trans ?_ (by assumption))))))).mono ?_); rintro e w' ⟨rfl, rfl⟩) | (go_at_call 49; (with_reducible refine (l00In_is _ _ _ _ hb _).mono ?_); rintro e w' ⟨rfl, rfl⟩))
        go_ret
        exact ⟨ret_bool (HR.out.symm.trans HW.out), (by first | exact ⟨_, rfl⟩ | exact ⟨_, World.drewN_drewN _ _ _⟩)⟩
      · have HR : Hid (vprt xs t h = true) := by show _ = _; unfold vprt; rw [hb, HP.out, HY.out, decide_eq_true hle]; rfl
        go_enter Tryd.func50, Tryd.ntmps50
        go_wp2_with (first | (go_at_call 75; (with_reducible refine (l02Ok_is B m c xs true HP.out _ hI).mono ?_); rintro e w' ⟨rfl, n, rfl⟩) | (go_at_call 76; (with_reducible refine (CH.out _ (hI.ext (by with_reducible (repeat (first | exact Ext.refl _ | apply Ext.drewN | apply Ext.drew | apply Ext.alloc | (refine Ext.set ?_ (by first | (simp; done) | (simp; omega) | omega) _) | (refine Ext.trans ?_ (by assumption))))))).mono ?_); rintro e w' ⟨rfl, rfl⟩) | (go_at_call 49; (with_reducible refine (l00In_is _ _ _ _ hb _).mono ?_); rintro e w' ⟨rfl, rfl⟩))
        go_ret
        exact ⟨ret_bool (HR.out.symm.trans HW.out), (by first | exact ⟨_, rfl⟩ | exact ⟨_, World.drewN_drewN _ _ _⟩)⟩
    · have HR : Hid (vprt xs t h = false) := by show _ = _; unfold vprt; rw [HY.out, decide_eq_false hle]; simp
      go_enter Tryd.func50, Tryd.ntmps50
      go_wp2_with (first | (go_at_call 75; (with_reducible refine (l02Ok_is B m c xs true HP.out _ hI).mono ?_); rintro e w' ⟨rfl, n, rfl⟩) | (go_at_call 76; (with_reducible refine (CH.out _ (hI.ext (by with_reducible (repeat (first | exact Ext.refl _ | apply Ext.drewN | apply Ext.drew | apply Ext.alloc | (refine Ext.set ?_ (by first | (simp; done) | (simp; omega) | omega) _) | (refine Ext.trans ?_ (by assumption))))))).mono ?_); rintro e w' ⟨rfl, rfl⟩))
      go_ret
      exact ⟨ret_bool (HR.out.symm.trans HW.out), (by first | exact ⟨_, rfl⟩ | exact ⟨_, World.drewN_drewN _ _ _⟩)⟩
theorem l19Part_at (b o : Nat) (B : Option Addr) (m c : Nat) (xs : List Int) (t h : Int) (w : World) (q : Nat) (c0 : w.cell? ⟨b, o, none⟩ = some (.slice B m c)) (c1 : w.cell? ⟨b, o + 1, none⟩ = some (.int .i64 t)) (hI : Ints w B m xs) (v : Bool) (hv : vprt xs t h = v) :
    Calls Tryd.prog 50 #[.pointer (some ⟨b, o, none⟩), .int .i64 h] (w.drewN q) fun e w' => e = .returned (.bool v) ∧ Qt (w.drewN q) w' :=
  l19Part_is b o B m c xs t h (w.drewN q) c0 c1 (hI.drewN q) v hv
set_option maxHeartbeats 4000000 in
set_option maxRecDepth 100000 in
theorem l19Ok_is (g : Nat) (A : Option Addr) (n c : Nat) (ps : List (List Int × Int)) (h : Int) (w : World) (a0 : w.cell? ⟨g, 0, none⟩ = some (.int .i64 h)) (a1 : w.cell? ⟨g, 1, none⟩ = some (.slice A n c)) (hP : Parts w A n ps) (v : Bool) (hv : v = true ↔ vrt h ps) :
    Calls Tryd.prog 22 #[.pointer (some ⟨g, 0, none⟩)] w fun e w' => e = .returned (.bool v) ∧ Qt w w' := by
  have hs := hP.small
  have HVR := Lib.hid hv
  have HLN := Lib.hid hP.len
  clear hv
  cases hb1 : btw h 1 10
  · have HF : Hid (v = false) := no_of HVR.out (fun e => by have := e.1; rw [hb1] at this; cases this)
    go_enter Tryd.func22, Tryd.ntmps22
    go_wp2_with (first | (go_at_call 48; (with_reducible refine (l08Height_is _ _ _ hb1).mono ?_); rintro e w' ⟨rfl, rfl⟩))
    go_ret
    exact ⟨ret_bool HF.out.symm, Qt.refl _⟩
  cases hb2 : btw n 1 8
  · have HF : Hid (v = false) := no_of HVR.out (fun e => by have := e.2.1; rw [HLN.out, hb2] at this; cases this)
    go_enter Tryd.func22, Tryd.ntmps22
    go_wp2_with (first | (go_at_call 48; (with_reducible refine (l08Height_is _ _ _ hb1).mono ?_); rintro e w' ⟨rfl, rfl⟩) | (go_at_call 49; (with_reducible refine (l00In_is _ _ _ _ hb2 _).mono ?_); rintro e w' ⟨rfl, rfl⟩))
    go_ret
    exact ⟨ret_bool HF.out.symm, Qt.refl _⟩
  have HB1 := Lib.hid hb1
  have HB2 := Lib.hid hb2
  go_enter Tryd.func22, Tryd.ntmps22
  go_wp2_with (first | (go_at_call 48; (with_reducible refine (l08Height_is _ _ _ hb1).mono ?_); rintro e w' ⟨rfl, rfl⟩) | (go_at_call 49; (with_reducible refine (l00In_is _ _ _ _ hb2 _).mono ?_); rintro e w' ⟨rfl, rfl⟩))
  clear hb1 hb2
  go_loopw [3] (fun i wr => ∃ k : Nat, k ≤ n ∧ i = .int .i64 k ∧ Qt w wr ∧ ∀ j, j < k → vprt (pt ps j) (tm ps j) h = true ∧ prp (pt ps j) = prp (pt ps 0)) (fun i _ => n - (intOf i).toNat)
  case atStart => exact ⟨0, Nat.zero_le _, rfl, Qt.refl _, fun j h => absurd h (by omega)⟩
  case round =>
    obtain ⟨k, hk, rfl, ⟨q, rfl⟩, hall⟩ := hrel
    have HA := Lib.hid hall
    clear hall
    by_cases hlt : k < n
    · obtain ⟨b, off, hA, hb, hcell⟩ := hP.at_ (by omega)
      subst hA
      obtain ⟨B1, m1, d1, c0, c1, I1⟩ := hcell k hlt
      obtain ⟨B0, m0, d0, e0, _, I0⟩ := hcell 0 (by omega)
      rw [Nat.zero_mul, Nat.add_zero] at e0
      have i1 : (k : Int) < n := by omega
      have i0 : (0 : Int) < n := by omega
      have i0n : 0 < n := by omega
      clear hcell
      obtain ⟨t, ht⟩ : ∃ t, tm ps k = t := ⟨_, rfl⟩
      have HT := Lib.hid ht
      rw [ht] at c1
      clear ht
      have C0 := Lib.hid c0
      have C1 := Lib.hid c1
      cases hvp : vprt (pt ps k) t h
      · have HVP := Lib.hid hvp
        clear hvp
        have HF : Hid (v = false) := no_of HVR.out (fun e => by
          have h1 := (e.2.2 k (by rw [HLN.out]; exact hlt)).1
          rw [HT.out, HVP.out] at h1
          cases h1)
        go_wp2
        go_quiet ((go_at_call 50; first | with_reducible exact quiet_q (l19Part_at b _ B1 m1 d1 _ t h _ _ C0.out C1.out I1 false HVP.out) | with_reducible exact quiet_qa (l19Part_at b _ B1 m1 d1 _ t h _ _ C0.out C1.out I1 false HVP.out)))
        go_wp2
        go_ret
        exact ⟨ret_bool HF.out.symm, (by first | exact ⟨_, rfl⟩ | exact ⟨_, World.drewN_drewN _ _ _⟩)⟩
      · have HVP := Lib.hid hvp
        clear hvp
        have HP1 : Hid (vpat (pt ps k) = true) := vprt_pat HVP.out
        have HP0 : Hid (vpat (pt ps 0) = true) := by
          show _ = _
          rcases Nat.eq_zero_or_pos k with hk0 | hk0
          · rw [← hk0]; exact HP1.out
          · exact vprt_pat (HA.out 0 hk0).1
        have cp1 := fun W hW => l02Props_any B1 m1 d1 (pt ps k) W hW HP1.out
        have cp0 := fun W hW => l02Props_any B0 m0 d0 (pt ps 0) W hW HP0.out
        by_cases hpq : prp (pt ps k) = prp (pt ps 0)
        · have HA2 : Hid (∀ j, j < k + 1 → vprt (pt ps j) (tm ps j) h = true ∧ prp (pt ps j) = prp (pt ps 0)) := fun j hj => by
            by_cases e : j = k
            · rw [e]; exact ⟨by rw [HT.out]; exact HVP.out, hpq⟩
            · exact HA.out j (by omega)
          rw [hpq] at cp1
          clear hpq
          obtain ⟨p, hp⟩ : ∃ p, prp (pt ps 0) = p := ⟨_, rfl⟩
          rw [hp] at cp0 cp1
          clear hp
          have CP1 := Lib.hid cp1
          have CP0 := Lib.hid cp0
          clear cp1 cp0
          go_wp2
          go_quiet ((first | (go_at_call 50; first | with_reducible exact quiet_q (l19Part_at b _ B1 m1 d1 _ t h _ _ C0.out C1.out I1 true HVP.out) | with_reducible exact quiet_qa (l19Part_at b _ B1 m1 d1 _ t h _ _ C0.out C1.out I1 true HVP.out)) | (go_at_call 51; first | with_reducible exact quiet_l (CP1.out _ (I1.ext (by with_reducible (repeat (first | exact Ext.refl _ | apply Ext.drewN | apply Ext.drew | apply Ext.alloc | (refine Ext.set ?_ (by first | (simp; done) | (simp; omega) | omega) _) | (refine Ext.trans ?_ (by assumption))))))) | with_reducible exact quiet_la (CP1.out _ (I1.ext (by with_reducible (repeat (first | exact Ext.refl _ | apply Ext.drewN | apply Ext.drew | apply Ext.alloc | (refine Ext.set ?_ (by first | (simp; done) | (simp; omega) | omega) _) | (refine Ext.trans ?_ (by assumption)))))))) | (go_at_call 51; first | with_reducible exact quiet_l (CP0.out _ (I0.ext (by with_reducible (repeat (first | exact Ext.refl _ | apply Ext.drewN | apply Ext.drew | apply Ext.alloc | (refine Ext.set ?_ (by first | (simp; done) | (simp; omega) | omega) _) | (refine Ext.trans ?_ (by assumption))))))) | with_reducible exact quiet_la (CP0.out _ (I0.ext (by with_reducible (repeat (first | exact Ext.refl _ | apply Ext.drewN | apply Ext.drew | apply Ext.alloc | (refine Ext.set ?_ (by first | (simp; done) | (simp; omega) | omega) _) | (refine Ext.trans ?_ (by assumption))))))))))
          go_wp2
          go_roundw
          case rel => exact ⟨k + 1, by omega, by go_num, (by first | exact ⟨_, rfl⟩ | exact ⟨_, World.drewN_drewN _ _ _⟩), HA2.out⟩
          case measure => simp [intOf]; omega
        · have HF : Hid (v = false) := no_of HVR.out (fun e => hpq (e.2.2 k (by rw [HLN.out]; exact hlt)).2)
          have hne : (prp (pt ps k) != prp (pt ps 0)) = true := by simpa using hpq
          clear hpq
          obtain ⟨p, hp⟩ : ∃ p, prp (pt ps k) = p := ⟨_, rfl⟩
          obtain ⟨p0, hp0⟩ : ∃ p, prp (pt ps 0) = p := ⟨_, rfl⟩
          rw [hp] at cp1 hne
          rw [hp0] at cp0 hne
          clear hp hp0
          have CP1 := Lib.hid cp1
          have CP0 := Lib.hid cp0
          clear cp1 cp0
          go_wp2
          go_quiet ((first | (go_at_call 50; first | with_reducible exact quiet_q (l19Part_at b _ B1 m1 d1 _ t h _ _ C0.out C1.out I1 true HVP.out) | with_reducible exact quiet_qa (l19Part_at b _ B1 m1 d1 _ t h _ _ C0.out C1.out I1 true HVP.out)) | (go_at_call 51; first | with_reducible exact quiet_l (CP1.out _ (I1.ext (by with_reducible (repeat (first | exact Ext.refl _ | apply Ext.drewN | apply Ext.drew | apply Ext.alloc | (refine Ext.set ?_ (by first | (simp; done) | (simp; omega) | omega) _) | (refine Ext.trans ?_ (by assumption))))))) | with_reducible exact quiet_la (CP1.out _ (I1.ext (by with_reducible (repeat (first | exact Ext.refl _ | apply Ext.drewN | apply Ext.drew | apply Ext.alloc | (refine Ext.set ?_ (by first | (simp; done) | (simp; omega) | omega) _) | (refine Ext.trans ?_ (by assumption)))))))) | (go_at_call 51; first | with_reducible exact quiet_l (CP0.out _ (I0.ext (by with_reducible (repeat (first | exact Ext.refl _ | apply Ext.drewN | apply Ext.drew | apply Ext.alloc | (refine Ext.set ?_ (by first | (simp; done) | (simp; omega) | omega) _) | (refine Ext.trans ?_ (by assumption))))))) | with_reducible exact quiet_la (CP0.out _ (I0.ext (by with_reducible (repeat (first | exact Ext.refl _ | apply Ext.drewN | apply Ext.drew | apply Ext.alloc | (refine Ext.set ?_ (by first | (simp; done) | (simp; omega) | omega) _) | (refine Ext.trans ?_ (by assumption))))))))))
          go_wp2
          go_ret
          exact ⟨ret_bool HF.out.symm, (by first | exact ⟨_, rfl⟩ | exact ⟨_, World.drewN_drewN _ _ _⟩)⟩
    · obtain rfl : k = n := by omega
      have HF : Hid (v = true) := HVR.out.2 ⟨HB1.out, by rw [HLN.out]; exact HB2.out, fun i hi => HA.out i (by rw [HLN.out] at hi; exact hi)⟩
      go_wp2
      go_ret
      exact ⟨ret_bool HF.out.symm, (by first | exact ⟨_, rfl⟩ | exact ⟨_, World.drewN_drewN _ _ _⟩)⟩
end Go.Proofs.YtinkaglngblddaaDoor
