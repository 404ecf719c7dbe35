/- Contracts of CompareFractions. No condition. -/
import Derived.Test.YtenljcmaljeffaaDoorFrm
namespace Go.Proofs.YtenljcmaljeffaaDoor
set_option linter.unusedVariables false
set_option linter.unusedSimpArgs false
open Go.RowKit

def vfr (n d : Int) : Bool := btw n (-1000000000) 1000000000 && btw d 1 1000000000
def sgn (a b : Int) : Int := if a < b then -1 else if b < a then 1 else 0
theorem vfr_iff {n d : Int} : vfr n d = true ↔ (-1000000000 ≤ n ∧ n ≤ 1000000000) ∧ (1 ≤ d ∧ d ≤ 1000000000) := by
  simp only [vfr, Bool.and_eq_true, btw_iff]
/-- The loop's relation. -/
def CmpRel (n1 d1 n2 d2 : Int) (w : World) (i : Value) (wr : World) : Prop := ∃ k : Nat, k ≤ 2 ∧ i = .int .i64 k ∧ (1 ≤ k → vfr n1 d1 = true) ∧ (2 ≤ k → vfr n2 d2 = true) ∧
  wr.cell? ⟨w.heap.size, 0, none⟩ = some (.int .i64 n1) ∧ wr.cell? ⟨w.heap.size, 1, none⟩ = some (.int .i64 d1) ∧ wr.cell? ⟨w.heap.size + 1, 0, none⟩ = some (.int .i64 n2) ∧ wr.cell? ⟨w.heap.size + 1, 1, none⟩ = some (.int .i64 d2) ∧
  wr.cell? ⟨w.heap.size + 1 + 1, 0, none⟩ = some (.int .i64 n1) ∧ wr.cell? ⟨w.heap.size + 1 + 1, 1, none⟩ = some (.int .i64 d1) ∧ wr.cell? ⟨w.heap.size + 1 + 1, 2, none⟩ = some (.int .i64 n2) ∧ wr.cell? ⟨w.heap.size + 1 + 1, 3, none⟩ = some (.int .i64 d2) ∧ Ext w wr ∧ w.heap.size + 2 < wr.heap.size
set_option maxHeartbeats 2000000 in
theorem implCompare_any (n1 d1 n2 d2 r : Int) (w : World) (hr : Hid ((vfr n1 d1 = false ∨ vfr n2 d2 = false) ∧ r = 0 ∨ (vfr n1 d1 = true ∧ vfr n2 d2 = true) ∧ r = sgn (n1 * d2) (n2 * d1))) :
    Calls Tryd.prog 15 #[.agg #[.int .i64 n1, .int .i64 d1], .agg #[.int .i64 n2, .int .i64 d2]] w fun e w' => e = .returned (.int .i64 r) ∧ Ext w w' := by
  go_enter Tryd.func15, Tryd.ntmps15
  go_wp2
  go_loopw [13] (fun i wr => CmpRel n1 d1 n2 d2 w i wr) (fun i _ => 2 - (intOf i).toNat)
  case atStart => exact ⟨0, by omega, rfl, by omega, by omega, by go_simp, by go_simp, by go_simp, by go_simp, by go_simp, by go_simp, by go_simp, by go_simp, (by with_reducible (repeat (first | exact Ext.refl _ | apply Ext.drewN | apply Ext.drew | apply Ext.alloc | (refine Ext.set ?_ (by first | (simp; done) | (simp; omega) | omega) _) | (refine Ext.trans ?_ (by assumption))))), by simp⟩
  case round =>
    obtain ⟨k, hk, rfl, hk1, hk2, a0, a1, a2, a3, a4, a5, a6, a7, hx, hz⟩ := hrel
    have p0 : w.heap.size < wr.heap.size := by omega
    have p1 : w.heap.size + 1 < wr.heap.size := by omega
    have q0 : w.heap.size ≠ wr.heap.size := by omega
    have q1 : w.heap.size + 1 ≠ wr.heap.size := by omega
    have q2 : w.heap.size + 1 + 1 ≠ wr.heap.size := by omega
    have fin : ∀ r', Hid (r = r') → Ending.returned (.int .i64 r') = Ending.returned (.int .i64 r) := fun r' h => by rw [h.out]
    rcases (by omega : k = 0 ∨ k = 1 ∨ k = 2) with rfl | rfl | rfl
    · clear hk1 hk2
      cases hv : vfr n1 d1
      · have HF : Hid (r = 0) := by
          rcases hr.out with ⟨_, h⟩ | ⟨⟨h, _⟩, _⟩
          · exact h
          · rw [hv] at h; cases h
        have hv' : btw n1 (-1000000000) 1000000000 = false ∨ btw n1 (-1000000000) 1000000000 = true ∧ btw d1 1 1000000000 = false := by
          unfold vfr at hv
          cases h : btw n1 (-1000000000) 1000000000 <;> simp [h] at hv ⊢
          exact hv
        clear hv
        rcases hv' with hb1 | ⟨hb1, hb2⟩
        · go_wp2_with (first | (go_at_call 21; (with_reducible refine (between_is _ _ _ _ hb1 _).mono ?_); rintro e w' ⟨rfl, rfl⟩))
          go_ret
          exact ⟨fin _ HF, (by with_reducible (repeat (first | exact Ext.refl _ | apply Ext.drewN | apply Ext.drew | apply Ext.alloc | (refine Ext.set ?_ (by first | (simp; done) | (simp; omega) | omega) _) | (refine Ext.trans ?_ (by assumption)))))⟩
        · go_wp2_with (first | (go_at_call 21; (with_reducible refine (between_is _ _ _ _ hb1 _).mono ?_); rintro e w' ⟨rfl, rfl⟩) | (go_at_call 21; (with_reducible refine (between_is _ _ _ _ hb2 _).mono ?_); rintro e w' ⟨rfl, rfl⟩))
          go_ret
          exact ⟨fin _ HF, (by with_reducible (repeat (first | exact Ext.refl _ | apply Ext.drewN | apply Ext.drew | apply Ext.alloc | (refine Ext.set ?_ (by first | (simp; done) | (simp; omega) | omega) _) | (refine Ext.trans ?_ (by assumption)))))⟩
      · have hv' := hv
        unfold vfr at hv'
        rw [Bool.and_eq_true] at hv'
        obtain ⟨hb1, hb2⟩ := hv'
        have HV : Hid (vfr n1 d1 = true) := hv
        clear hv
        go_wp2_with (first | (go_at_call 21; (with_reducible refine (between_is _ _ _ _ hb1 _).mono ?_); rintro e w' ⟨rfl, rfl⟩) | (go_at_call 21; (with_reducible refine (between_is _ _ _ _ hb2 _).mono ?_); rintro e w' ⟨rfl, rfl⟩))
        go_roundw
        case rel => exact ⟨1, by omega, by go_num, fun _ => HV, by omega, by go_simp, by go_simp, by go_simp, by go_simp, by go_simp, by go_simp, by go_simp, by go_simp, (by with_reducible (repeat (first | exact Ext.refl _ | apply Ext.drewN | apply Ext.drew | apply Ext.alloc | (refine Ext.set ?_ (by first | (simp; done) | (simp; omega) | omega) _) | (refine Ext.trans ?_ (by assumption))))), by simp; omega⟩
        case measure => simp [intOf]
    · have HV : Hid (vfr n1 d1 = true) := hk1 (by omega)
      clear hk1 hk2
      cases hv : vfr n2 d2
      · have HF : Hid (r = 0) := by
          rcases hr.out with ⟨_, h⟩ | ⟨⟨_, h⟩, _⟩
          · exact h
          · rw [hv] at h; cases h
        have hv' : btw n2 (-1000000000) 1000000000 = false ∨ btw n2 (-1000000000) 1000000000 = true ∧ btw d2 1 1000000000 = false := by
          unfold vfr at hv
          cases h : btw n2 (-1000000000) 1000000000 <;> simp [h] at hv ⊢
          exact hv
        clear hv
        rcases hv' with hb1 | ⟨hb1, hb2⟩
        · go_wp2_with (first | (go_at_call 21; (with_reducible refine (between_is _ _ _ _ hb1 _).mono ?_); rintro e w' ⟨rfl, rfl⟩))
          go_ret
          exact ⟨fin _ HF, (by with_reducible (repeat (first | exact Ext.refl _ | apply Ext.drewN | apply Ext.drew | apply Ext.alloc | (refine Ext.set ?_ (by first | (simp; done) | (simp; omega) | omega) _) | (refine Ext.trans ?_ (by assumption)))))⟩
        · go_wp2_with (first | (go_at_call 21; (with_reducible refine (between_is _ _ _ _ hb1 _).mono ?_); rintro e w' ⟨rfl, rfl⟩) | (go_at_call 21; (with_reducible refine (between_is _ _ _ _ hb2 _).mono ?_); rintro e w' ⟨rfl, rfl⟩))
          go_ret
          exact ⟨fin _ HF, (by with_reducible (repeat (first | exact Ext.refl _ | apply Ext.drewN | apply Ext.drew | apply Ext.alloc | (refine Ext.set ?_ (by first | (simp; done) | (simp; omega) | omega) _) | (refine Ext.trans ?_ (by assumption)))))⟩
      · have hv' := hv
        unfold vfr at hv'
        rw [Bool.and_eq_true] at hv'
        obtain ⟨hb1, hb2⟩ := hv'
        have HU : Hid (vfr n2 d2 = true) := hv
        clear hv
        go_wp2_with (first | (go_at_call 21; (with_reducible refine (between_is _ _ _ _ hb1 _).mono ?_); rintro e w' ⟨rfl, rfl⟩) | (go_at_call 21; (with_reducible refine (between_is _ _ _ _ hb2 _).mono ?_); rintro e w' ⟨rfl, rfl⟩))
        go_roundw
        case rel => exact ⟨2, by omega, by go_num, fun _ => HV.out, fun _ => HU.out, by go_simp, by go_simp, by go_simp, by go_simp, by go_simp, by go_simp, by go_simp, by go_simp, (by with_reducible (repeat (first | exact Ext.refl _ | apply Ext.drewN | apply Ext.drew | apply Ext.alloc | (refine Ext.set ?_ (by first | (simp; done) | (simp; omega) | omega) _) | (refine Ext.trans ?_ (by assumption))))), by simp; omega⟩
        case measure => simp [intOf]
    · have hv : vfr n1 d1 = true := hk1 (by omega)
      have hu : vfr n2 d2 = true := hk2 (by omega)
      have HF : Hid (r = sgn (n1 * d2) (n2 * d1)) := by
        rcases hr.out with ⟨h | h, _⟩ | ⟨_, h⟩
        · rw [hv] at h; cases h
        · rw [hu] at h; cases h
        · exact h
      clear hk1 hk2
      have b1 := vfr_iff.1 hv
      have b2 := vfr_iff.1 hu
      have m1 := mul_bd (a := n1) (b := d2) (A := 1000000000) (B := 1000000000) (by omega) (by omega)
      have m2 := mul_bd (a := n2) (b := d1) (A := 1000000000) (B := 1000000000) (by omega) (by omega)
      have w1 : IntKind.i64.wrap (n1 * d2) = n1 * d2 := IntWalk.i64_in _ (by omega)
      have w2 : IntKind.i64.wrap (n2 * d1) = n2 * d1 := IntWalk.i64_in _ (by omega)
      clear hv hu b1 b2
      go_wp2
      go_quiet (fail)
      clear w1 w2
      by_cases c1 : n1 * d2 < n2 * d1
      · have HF2 : Hid (r = -1) := by rw [HF.out]; exact if_pos c1
        clear HF
        go_wp2
        go_ret
        exact ⟨fin _ HF2, (by with_reducible (repeat (first | exact Ext.refl _ | apply Ext.drewN | apply Ext.drew | apply Ext.alloc | (refine Ext.set ?_ (by first | (simp; done) | (simp; omega) | omega) _) | (refine Ext.trans ?_ (by assumption)))))⟩
      · by_cases c2 : n2 * d1 < n1 * d2
        · have HF2 : Hid (r = 1) := by show r = 1; rw [HF.out]; unfold sgn; rw [if_neg c1, if_pos c2]
          clear HF
          go_wp2
          go_ret
          exact ⟨fin _ HF2, (by with_reducible (repeat (first | exact Ext.refl _ | apply Ext.drewN | apply Ext.drew | apply Ext.alloc | (refine Ext.set ?_ (by first | (simp; done) | (simp; omega) | omega) _) | (refine Ext.trans ?_ (by assumption)))))⟩
        · have HF2 : Hid (r = 0) := by show r = 0; rw [HF.out]; unfold sgn; rw [if_neg c1, if_neg c2]
          clear HF
          go_wp2
          go_ret
          exact ⟨fin _ HF2, (by with_reducible (repeat (first | exact Ext.refl _ | apply Ext.drewN | apply Ext.drew | apply Ext.alloc | (refine Ext.set ?_ (by first | (simp; done) | (simp; omega) | omega) _) | (refine Ext.trans ?_ (by assumption)))))⟩
theorem implCompare_no (n1 d1 n2 d2 : Int) (w : World) (h : vfr n1 d1 = false ∨ vfr n2 d2 = false) :
    Calls Tryd.prog 15 #[.agg #[.int .i64 n1, .int .i64 d1], .agg #[.int .i64 n2, .int .i64 d2]] w fun e w' => e = .returned (.int .i64 0) ∧ Ext w w' :=
  implCompare_any n1 d1 n2 d2 0 w (.inl ⟨h, rfl⟩)
end Go.Proofs.YtenljcmaljeffaaDoor
