/- Passing patterns: l06Same, SamePassing, ValidPassing of the reference, PassingProps. No condition but the stated bounds. -/
import Derived.Test.YtlalaomimfdepaaThr9
import Derived.Test.YtlalaomimfdepaaPsd5
namespace Go.Proofs.Ytlalaomimfdepaa
set_option linter.unusedVariables false
set_option linter.unusedSimpArgs false
open Go.ChangeShapes Go.WideShapes Go.ChangeAt Go.RowKit Go.Joins Go.Deep

set_option maxHeartbeats 1000000 in
theorem l06Same_same (A B : Option Addr) (n c d : Nat) (ts : List (Int × Bool)) (w : World) (hI : Thr w A n ts) (hJ : Thr w B n ts) :
    Calls Try.prog 43 #[.slice A n c, .slice B n d] w (fun e w' => e = .returned (.bool true) ∧ Ext w w') := by
  have hs := hI.small
  go_enter Try.func43, Try.ntmps43
  go_wp2
  go_loopw [5] (fun i wr => ∃ k : Nat, k ≤ n ∧ i = .int .i64 k ∧ Ext w wr) (fun i _ => n - (intOf i).toNat)
  case atStart => exact ⟨0, Nat.zero_le _, rfl, Ext.refl _⟩
  case round =>
    obtain ⟨k, hk, rfl, hx⟩ := hrel
    by_cases hlt : k < n
    · obtain ⟨b, off, hA, hb, hcell⟩ := (hI.ext hx).at_ (by omega)
      obtain ⟨b2, off2, hB, hb2, hcell2⟩ := (hJ.ext hx).at_ (by omega)
      subst hA hB
      obtain ⟨c1, c3⟩ := hcell k hlt
      obtain ⟨c2, c4⟩ := hcell2 k hlt
      have i1 : (k : Int) < n := by omega
      clear hcell hcell2
      generalize tv ts k = x at *
      generalize tp ts k = p at *
      go_wp2_with fail
      go_quiet (fail)
      go_wp2
      go_roundw
      case rel => exact ⟨k + 1, by omega, by go_num, Ext.trans hx (by with_reducible (repeat (first | exact Ext.refl _ | apply Ext.drewN | apply Ext.drew | apply Ext.alloc | (refine Ext.set ?_ (by first | (simp; done) | (simp; omega) | omega) _) | (refine Ext.trans ?_ (by assumption)))))⟩
      case measure => simp [intOf]; omega
    · obtain rfl : k = n := by omega
      go_wp2
      go_ret
      exact ⟨rfl, hx⟩
set_option maxHeartbeats 1000000 in
theorem SamePassing_same (A B A' B' : Option Addr) (n c m d c' d' : Nat) (ts us : List (Int × Bool)) (w : World) (hA : Thr w A n ts) (hB : Thr w B m us) (hA' : Thr w A' n ts) (hB' : Thr w B' m us) :
    Calls Try.prog 21 #[.agg #[.slice A n c, .slice B m d], .agg #[.slice A' n c', .slice B' m d']] w (fun e w' => e = .returned (.bool true) ∧ Ext w w') := by
  go_enter Try.func21, Try.ntmps21
  go_wp2_with fail
  (with_reducible refine (l06Same_same A A' n c c' ts _ (hA.ext (by with_reducible (repeat (first | exact Ext.refl _ | apply Ext.drewN | apply Ext.drew | apply Ext.alloc | (refine Ext.set ?_ (by first | (simp; done) | (simp; omega) | omega) _) | (refine Ext.trans ?_ (by assumption)))))) (hA'.ext (by with_reducible (repeat (first | exact Ext.refl _ | apply Ext.drewN | apply Ext.drew | apply Ext.alloc | (refine Ext.set ?_ (by first | (simp; done) | (simp; omega) | omega) _) | (refine Ext.trans ?_ (by assumption))))))).mono ?_)
  rintro e w1 ⟨rfl, hx1⟩
  have hX := blk_ext (blk_ext (heap_alloc_new w (.cells #[.slice A n c, .slice B m d] 28)) ((Ext.refl _).alloc (.cells #[.slice A' n c', .slice B' m d'] 28))) hx1
  have hY := blk_ext (heap_alloc_new (w.alloc (.cells #[.slice A n c, .slice B m d] 28)) (.cells #[.slice A' n c', .slice B' m d'] 28)) hx1
  rw [World.size_alloc] at hY
  obtain ⟨⟨q0, q1⟩, f0, f1⟩ := blk2 hX
  obtain ⟨⟨r0, r1⟩, s0, s1⟩ := blk2 hY
  have hE : Ext w w1 := Ext.trans (by with_reducible (repeat (first | exact Ext.refl _ | apply Ext.drewN | apply Ext.drew | apply Ext.alloc | (refine Ext.set ?_ (by first | (simp; done) | (simp; omega) | omega) _) | (refine Ext.trans ?_ (by assumption))))) hx1
  have hBn := hB.ext hE
  have hBn' := hB'.ext hE
  have HE := Lib.hid hE
  clear hX hY hx1 hE
  go_wp2_with fail
  (with_reducible refine (l06Same_same B B' m d d' us _ hBn hBn').mono ?_)
  rintro e w2 ⟨rfl, hx2⟩
  have HX : Hid (Ext w w2) := Ext.trans HE.out hx2
  clear hx2
  go_wp2
  go_ret
  exact ⟨rfl, HX.out⟩
set_option maxHeartbeats 1000000 in
theorem specValidPassing_any (A B : Option Addr) (n c m d : Nat) (ts us : List (Int × Bool)) (w : World) (hI : Thr w A n ts) (hJ : Thr w B m us) :
    Calls Try.prog 23 #[.agg #[.slice A n c, .slice B m d]] w fun e w' => e = .returned (.bool (vpas ts us)) ∧ Ext w w' := by
  have hbx : PBox (w.alloc (.cells #[.slice A n c, .slice B m d] 28)) w.heap.size A n c B m d := ⟨by simp, (blk2 (heap_alloc_new w _)).1.1, (blk2 (heap_alloc_new w _)).1.2⟩
  go_enter Try.func23, Try.ntmps23
  go_wp2_with fail
  (with_reducible refine (l06Ok_any _ A B n c m d ts us _ hbx (hI.ext (by with_reducible (repeat (first | exact Ext.refl _ | apply Ext.drewN | apply Ext.drew | apply Ext.alloc | (refine Ext.set ?_ (by first | (simp; done) | (simp; omega) | omega) _) | (refine Ext.trans ?_ (by assumption)))))) (hJ.ext (by with_reducible (repeat (first | exact Ext.refl _ | apply Ext.drewN | apply Ext.drew | apply Ext.alloc | (refine Ext.set ?_ (by first | (simp; done) | (simp; omega) | omega) _) | (refine Ext.trans ?_ (by assumption))))))).mono ?_)
  rintro e w1 ⟨rfl, hx1⟩
  have HX : Hid (Ext w w1) := Ext.trans (by with_reducible (repeat (first | exact Ext.refl _ | apply Ext.drewN | apply Ext.drew | apply Ext.alloc | (refine Ext.set ?_ (by first | (simp; done) | (simp; omega) | omega) _) | (refine Ext.trans ?_ (by assumption))))) hx1
  clear hx1 hbx
  go_wp2
  go_ret
  exact ⟨rfl, HX.out⟩
/-- The sum of the first k throws of both. -/
def psm (ts us : List (Int × Bool)) : Nat → Int
  | 0 => 0
  | k + 1 => psm ts us k + (tv ts k + tv us k)
theorem psm_bd {ts us : List (Int × Bool)} {k : Nat} (h : ∀ i, i < k → (0 ≤ tv ts i ∧ tv ts i ≤ 15) ∧ (0 ≤ tv us i ∧ tv us i ≤ 15)) : 0 ≤ psm ts us k ∧ psm ts us k ≤ 30 * k := by
  induction k with
  | zero => simp [psm]
  | succ k ih =>
    have h1 := ih (fun i hi => h i (by omega))
    have h2 := h k (by omega)
    simp only [psm]
    omega
set_option maxHeartbeats 2000000 in
theorem implPassingProps_yes (A B : Option Addr) (n c d : Nat) (ts us : List (Int × Bool)) (w : World) (hI : Thr w A n ts) (hJ : Thr w B n us) (hv : Hid (vpas ts us = true)) :
    Calls Try.prog 24 #[.agg #[.slice A n c, .slice B n d]] w fun e w' => e = .returned (.tuple #[.int .i64 (RowKit.wrap64 (psm ts us n / n)), .int .i64 0]) ∧ Ext w w' := by
  obtain ⟨g1, g2, g3, g4, g5⟩ := vpas_parts hv.out
  rw [g3] at g5
  rw [hI.len] at g1 g2 g4 g5
  have HB : Hid (∀ i, i < n → (0 ≤ tv ts i ∧ tv ts i ≤ 15) ∧ (0 ≤ tv us i ∧ tv us i ≤ 15)) := fun i hi => ⟨g4 i hi, g5 i hi⟩
  clear g3 g4 g5
  have hbx := heap_alloc_new w (.cells #[.slice A n c, .slice B n d] 28)
  go_enter Try.func24, Try.ntmps24
  go_wp2_with fail
  (with_reducible refine (ValidPassing_any A B n c n d ts us _ (hI.ext (by with_reducible (repeat (first | exact Ext.refl _ | apply Ext.drewN | apply Ext.drew | apply Ext.alloc | (refine Ext.set ?_ (by first | (simp; done) | (simp; omega) | omega) _) | (refine Ext.trans ?_ (by assumption)))))) (hJ.ext (by with_reducible (repeat (first | exact Ext.refl _ | apply Ext.drewN | apply Ext.drew | apply Ext.alloc | (refine Ext.set ?_ (by first | (simp; done) | (simp; omega) | omega) _) | (refine Ext.trans ?_ (by assumption))))))).mono ?_)
  rw [hv.out]
  rintro e w1 ⟨rfl, hx1⟩
  have hT := blk_ext hbx hx1
  have hE1 : Ext w w1 := Ext.trans (by with_reducible (repeat (first | exact Ext.refl _ | apply Ext.drewN | apply Ext.drew | apply Ext.alloc | (refine Ext.set ?_ (by first | (simp; done) | (simp; omega) | omega) _) | (refine Ext.trans ?_ (by assumption))))) hx1
  have hI1 := hI.ext hE1
  have hJ1 := hJ.ext hE1
  clear hbx hx1
  obtain ⟨⟨q0, q1⟩, f0, f1⟩ := blk2 hT
  go_wp2_with fail
  go_loopw [4, 12] (fun s i wr => ∃ k : Nat, k ≤ n ∧ i = .int .i64 k ∧ s = .int .i64 (psm ts us k) ∧ Ext w1 wr) (fun _ i _ => n - (intOf i).toNat)
  case atStart => exact ⟨0, by omega, rfl, rfl, Ext.refl _⟩
  case round =>
    obtain ⟨k, hk, rfl, rfl, hx⟩ := hrel
    clear q0 q1 f0 f1
    have hTr := blk_ext hT hx
    by_cases hlt : k < n
    · obtain ⟨b, off, hA, hb, hcell⟩ := (hI1.ext hx).at_ (by omega)
      obtain ⟨b2, off2, hB, hb2, hcell2⟩ := (hJ1.ext hx).at_ (by omega)
      subst hA hB
      obtain ⟨c1, c3⟩ := hcell k hlt
      obtain ⟨c2, c4⟩ := hcell2 k hlt
      have i1 : (k : Int) < n := by omega
      have hs := psm_bd (k := k) (fun i hi => HB.out i (by omega))
      have hb1 := HB.out k hlt
      have HS : Hid (psm ts us (k + 1) = psm ts us k + (tv ts k + tv us k)) := rfl
      clear hcell hcell2
      obtain ⟨⟨q0, q1⟩, f0, f1⟩ := blk2 hTr
      generalize psm ts us k = z at *
      generalize tv ts k = x at *
      generalize tv us k = y at *
      have e1 : IntKind.i64.wrap (x + y) = x + y := IntWalk.i64_in _ (by omega)
      have e2 : IntKind.i64.wrap (z + (x + y)) = z + (x + y) := IntWalk.i64_in _ (by omega)
      go_wp2_with fail
      go_quiet (fail)
      go_wp2
      go_roundw
      case rel => exact ⟨k + 1, by omega, by go_num, by rw [HS.out], Ext.trans hx (by with_reducible (repeat (first | exact Ext.refl _ | apply Ext.drewN | apply Ext.drew | apply Ext.alloc | (refine Ext.set ?_ (by first | (simp; done) | (simp; omega) | omega) _) | (refine Ext.trans ?_ (by assumption)))))⟩
      case measure => simp [intOf]; omega
    · obtain rfl : k = n := by omega
      obtain ⟨⟨q0, q1⟩, f0, f1⟩ := blk2 hTr
      have hs := psm_bd (k := k) HB.out
      have HX : Hid (Ext w wr) := Ext.trans hE1 hx
      have hk0 : (0 : Int) < k := by omega
      have hd : (psm ts us k).tdiv k = psm ts us k / k := Int.tdiv_eq_ediv_of_nonneg hs.1
      go_wp2
      exact bodyPost_ret (v := .tuple #[.int .i64 (RowKit.wrap64 (psm ts us k / k)), .int .i64 0]) (by simp [results, Try.results24, go_sem, *]) rfl ⟨rfl, HX.out⟩
end Go.Proofs.Ytlalaomimfdepaa
