/- Contracts of SameRoutine, the program's and the reference's. No condition. -/
import Derived.Test.YtinkaglngblddaaDoorRtn2
import Derived.Deep.QuietTactic
import Derived.BigQuiet
namespace Go.Proofs.YtinkaglngblddaaDoor
set_option linter.unusedVariables false
set_option linter.unusedSimpArgs false
open Go.RowKit Go.Joins

set_option maxHeartbeats 400000 in
theorem l00Same_any (A B : Option Addr) (n m c d : Nat) (xs ys : List Int) (w : World) (hI : Ints w A n xs) (hJ : Ints w B m ys) :
    Calls Tryd.prog 45 #[.slice A n c, .slice B m d] w fun e w' => e = .returned (.bool (decide (xs = ys))) ∧ Qt w w' := by
  have hs := hI.small
  have hs2 := hJ.small
  by_cases hnm : n = m
  · subst hnm
    have HE := Lib.hid (fun (h : ∀ i, i < n → xs[i]?.getD 0 = ys[i]?.getD 0) => ints_eq hI hJ.len h)
    go_enter Tryd.func45, Tryd.ntmps45
    go_wp2
    go_loopw [5] (fun i wr => ∃ k : Nat, k ≤ n ∧ i = .int .i64 k ∧ Qt w wr ∧ ∀ j, j < k → xs[j]?.getD 0 = ys[j]?.getD 0) (fun i _ => n - (intOf i).toNat)
    case atStart => exact ⟨0, Nat.zero_le _, rfl, Qt.refl _, fun j h => absurd h (by omega)⟩
    case round =>
      obtain ⟨k, hk, rfl, ⟨q, rfl⟩, hall⟩ := hrel
      have HA := Lib.hid hall
      clear hall
      by_cases hlt : k < n
      · obtain ⟨b, off, hA, hb, hcell⟩ := hI.at_ (by omega)
        obtain ⟨b2, off2, hB, hb2, hcell2⟩ := hJ.at_ (by omega)
        subst hA hB
        have c1 := hcell k hlt
        have c2 := hcell2 k hlt
        have i1 : (k : Int) < n := by omega
        clear hcell hcell2
        by_cases he : xs[k]?.getD 0 = ys[k]?.getD 0
        · have HA2 : Hid (∀ j, j < k + 1 → xs[j]?.getD 0 = ys[j]?.getD 0) := fun j hj => by
            by_cases e : j = k
            · rw [e]; exact he
            · exact HA.out j (by omega)
          rw [he] at c1
          clear he
          go_wp2
          go_quiet (fail)
          go_wp2
          go_roundw
          case rel => exact ⟨k + 1, by omega, by go_num, (by first | exact ⟨_, rfl⟩ | exact ⟨_, World.drewN_drewN _ _ _⟩), HA2.out⟩
          case measure => simp [intOf]; omega
        · have HR : Hid (decide (xs = ys) = false) := decide_eq_false (fun h => he (by rw [h]))
          have hne : (xs[k]?.getD 0 != ys[k]?.getD 0) = true := by simpa using he
          clear he
          generalize xs[k]?.getD 0 = u at *
          generalize ys[k]?.getD 0 = v at *
          go_wp2
          go_quiet (fail)
          go_wp2
          go_ret
          exact ⟨ret_bool HR.out.symm, (by first | exact ⟨_, rfl⟩ | exact ⟨_, World.drewN_drewN _ _ _⟩)⟩
      · have HR : Hid (decide (xs = ys) = true) := decide_eq_true (HE.out (fun i hi => HA.out i (by omega)))
        obtain rfl : k = n := by omega
        go_wp2
        go_ret
        exact ⟨ret_bool HR.out.symm, (by first | exact ⟨_, rfl⟩ | exact ⟨_, World.drewN_drewN _ _ _⟩)⟩
  · have HR : Hid (decide (xs = ys) = false) := decide_eq_false (fun h => hnm (by rw [← hI.len, ← hJ.len, h]))
    have h1 : ((n : Int) != m) = true := by simp; omega
    go_enter Tryd.func45, Tryd.ntmps45
    go_wp2
    go_ret
    exact ⟨ret_bool HR.out.symm, Qt.refl _⟩
theorem l00Same_is (A B : Option Addr) (n m c d : Nat) (xs ys : List Int) (w : World) (hI : Ints w A n xs) (hJ : Ints w B m ys) (v : Bool) (hv : decide (xs = ys) = v) :
    Calls Tryd.prog 45 #[.slice A n c, .slice B m d] w fun e w' => e = .returned (.bool v) ∧ Qt w w' := by
  subst hv
  exact l00Same_any A B n m c d xs ys w hI hJ
set_option maxHeartbeats 2000000 in
theorem implSameRoutine_is (A B : Option Addr) (n m c d : Nat) (ps qs : List (List Int × Int)) (h g : Int) (w : World) (hP : Parts w A n ps) (hQ : Parts w B m qs) (v0 : Bool) (hv0 : decide (h = g ∧ ps = qs) = v0) :
    Calls Tryd.prog 20 #[.agg #[.int .i64 h, .slice A n c], .agg #[.int .i64 g, .slice B m d]] w fun e w' => e = .returned (.bool v0) ∧ Ext w w' := by
  have HW := Lib.hid hv0
  clear hv0
  have hs := hP.small
  have hs2 := hQ.small
  by_cases hg : h = g
  rotate_left
  · have HR : Hid (decide (h = g ∧ ps = qs) = false) := decide_eq_false (fun e => hg e.1)
    have h1 : (h != g) = true := by simpa using hg
    clear hg
    go_enter Tryd.func20, Tryd.ntmps20
    go_wp2
    go_ret
    exact ⟨ret_bool (HR.out.symm.trans HW.out), (by with_reducible (repeat (first | exact Ext.refl _ | apply Ext.drewN | apply Ext.drew | apply Ext.alloc | (refine Ext.set ?_ (by first | (simp; done) | (simp; omega) | omega) _) | (refine Ext.trans ?_ (by assumption)))))⟩
  subst hg
  by_cases hnm : n = m
  rotate_left
  · have HR : Hid (decide (h = h ∧ ps = qs) = false) := decide_eq_false (fun e => hnm (by rw [← hP.len, ← hQ.len, e.2]))
    have h1 : ((n : Int) != m) = true := by simp; omega
    clear hnm
    go_enter Tryd.func20, Tryd.ntmps20
    go_wp2
    go_ret
    exact ⟨ret_bool (HR.out.symm.trans HW.out), (by with_reducible (repeat (first | exact Ext.refl _ | apply Ext.drewN | apply Ext.drew | apply Ext.alloc | (refine Ext.set ?_ (by first | (simp; done) | (simp; omega) | omega) _) | (refine Ext.trans ?_ (by assumption)))))⟩
  subst hnm
  have HE : Hid ((∀ i, i < n → pt ps i = pt qs i ∧ tm ps i = tm qs i) → ps = qs) := fun hh => parts_eq (hP.len.trans hQ.len.symm) (fun i hi => hh i (by rw [← hP.len]; exact hi))
  go_enter Tryd.func20, Tryd.ntmps20
  go_wp2
  go_loopw [24, 5, 6] (fun i _ _ wr => ∃ k : Nat, k ≤ n ∧ i = .int .i64 k ∧ Ext ((w.alloc (.cells #[.int .i64 h, .slice A n c] 29)).alloc (.cells #[.int .i64 h, .slice B n d] 29)) wr ∧ ∀ j, j < k → pt ps j = pt qs j ∧ tm ps j = tm qs j) (fun i _ _ _ => n - (intOf i).toNat)
  case atStart => exact ⟨0, Nat.zero_le _, rfl, Ext.refl _, fun j h => absurd h (by omega)⟩
  case round =>
    obtain ⟨k, hk, rfl, hx0, hall⟩ := hrel
    have HA := Lib.hid hall
    clear hall
    have hz := hx0.size
    (try simp at hz)
    have hx : Ext w wr := Ext.trans (by with_reducible (repeat (first | exact Ext.refl _ | apply Ext.drewN | apply Ext.drew | apply Ext.alloc | (refine Ext.set ?_ (by first | (simp; done) | (simp; omega) | omega) _) | (refine Ext.trans ?_ (by assumption))))) hx0
    have g0 : w.heap.size < wr.heap.size := by omega
    have g1 : w.heap.size + 1 < wr.heap.size := by omega
    have a1 : wr.cell? ⟨w.heap.size, 1, none⟩ = some (.slice A n c) := hx0.cell (by first | (simp; done) | (simp; omega)) (by simp)
    have a2 : wr.cell? ⟨w.heap.size + 1, 1, none⟩ = some (.slice B n d) := hx0.cell (by first | (simp; done) | (simp; omega)) (by simp)
    by_cases hlt : k < n
    · obtain ⟨b, off, hA, hb, hcell⟩ := (hP.ext hx).at_ (by omega)
      obtain ⟨b2, off2, hB, hb2, hcell2⟩ := (hQ.ext hx).at_ (by omega)
      subst hA hB
      obtain ⟨B1, m1, d1, c0, c1, I1⟩ := hcell k hlt
      obtain ⟨B2, m2, d2, e0, e1, I2⟩ := hcell2 k hlt
      have i1 : (k : Int) < n := by omega
      clear hcell hcell2
      by_cases he : tm ps k = tm qs k
      · obtain ⟨v, hv⟩ : ∃ v, decide (pt ps k = pt qs k) = v := ⟨_, rfl⟩
        have HV := Lib.hid hv
        clear hv
        have HTE := Lib.hid he
        obtain ⟨t, ht⟩ : ∃ t, tm ps k = t := ⟨_, rfl⟩
        rw [← he, ht] at e1
        rw [ht] at c1
        clear he ht
        cases v
        · have HR : Hid (decide (h = h ∧ ps = qs) = false) := decide_eq_false (fun e => (of_decide_eq_false HV.out) (by rw [e.2]))
          go_wp2
          go_quiet ((go_at_call 46; first | with_reducible exact quiet_q (sameNumbers_is B1 B2 _ _ d1 d2 _ _ _ (I1.ext (by with_reducible (repeat (first | exact Ext.refl _ | apply Ext.drewN | apply Ext.drew | apply Ext.alloc | (refine Ext.set ?_ (by first | (simp; done) | (simp; omega) | omega) _) | (refine Ext.trans ?_ (by assumption)))))) (I2.ext (by with_reducible (repeat (first | exact Ext.refl _ | apply Ext.drewN | apply Ext.drew | apply Ext.alloc | (refine Ext.set ?_ (by first | (simp; done) | (simp; omega) | omega) _) | (refine Ext.trans ?_ (by assumption)))))) false HV.out) | with_reducible exact quiet_qa (sameNumbers_is B1 B2 _ _ d1 d2 _ _ _ (I1.ext (by with_reducible (repeat (first | exact Ext.refl _ | apply Ext.drewN | apply Ext.drew | apply Ext.alloc | (refine Ext.set ?_ (by first | (simp; done) | (simp; omega) | omega) _) | (refine Ext.trans ?_ (by assumption)))))) (I2.ext (by with_reducible (repeat (first | exact Ext.refl _ | apply Ext.drewN | apply Ext.drew | apply Ext.alloc | (refine Ext.set ?_ (by first | (simp; done) | (simp; omega) | omega) _) | (refine Ext.trans ?_ (by assumption)))))) false HV.out)))
          go_wp2
          go_ret
          exact ⟨ret_bool (HR.out.symm.trans HW.out), (by with_reducible (repeat (first | exact Ext.refl _ | apply Ext.drewN | apply Ext.drew | apply Ext.alloc | (refine Ext.set ?_ (by first | (simp; done) | (simp; omega) | omega) _) | (refine Ext.trans ?_ (by assumption)))))⟩
        · have HA2 : Hid (∀ j, j < k + 1 → pt ps j = pt qs j ∧ tm ps j = tm qs j) := fun j hj => by
            by_cases e : j = k
            · rw [e]; exact ⟨of_decide_eq_true HV.out, HTE.out⟩
            · exact HA.out j (by omega)
          go_wp2
          go_quiet ((go_at_call 46; first | with_reducible exact quiet_q (sameNumbers_is B1 B2 _ _ d1 d2 _ _ _ (I1.ext (by with_reducible (repeat (first | exact Ext.refl _ | apply Ext.drewN | apply Ext.drew | apply Ext.alloc | (refine Ext.set ?_ (by first | (simp; done) | (simp; omega) | omega) _) | (refine Ext.trans ?_ (by assumption)))))) (I2.ext (by with_reducible (repeat (first | exact Ext.refl _ | apply Ext.drewN | apply Ext.drew | apply Ext.alloc | (refine Ext.set ?_ (by first | (simp; done) | (simp; omega) | omega) _) | (refine Ext.trans ?_ (by assumption)))))) true HV.out) | with_reducible exact quiet_qa (sameNumbers_is B1 B2 _ _ d1 d2 _ _ _ (I1.ext (by with_reducible (repeat (first | exact Ext.refl _ | apply Ext.drewN | apply Ext.drew | apply Ext.alloc | (refine Ext.set ?_ (by first | (simp; done) | (simp; omega) | omega) _) | (refine Ext.trans ?_ (by assumption)))))) (I2.ext (by with_reducible (repeat (first | exact Ext.refl _ | apply Ext.drewN | apply Ext.drew | apply Ext.alloc | (refine Ext.set ?_ (by first | (simp; done) | (simp; omega) | omega) _) | (refine Ext.trans ?_ (by assumption)))))) true HV.out)))
          go_wp2
          go_roundw
          case rel => exact ⟨k + 1, by omega, by go_num, hx0.trans (by with_reducible (repeat (first | exact Ext.refl _ | apply Ext.drewN | apply Ext.drew | apply Ext.alloc | (refine Ext.set ?_ (by first | (simp; done) | (simp; omega) | omega) _) | (refine Ext.trans ?_ (by assumption))))), HA2.out⟩
          case measure => simp [intOf]; omega
      · have HR : Hid (decide (h = h ∧ ps = qs) = false) := decide_eq_false (fun e => he (by rw [e.2]))
        have hne : (tm ps k != tm qs k) = true := by simpa using he
        clear he
        generalize tm ps k = u at *
        generalize tm qs k = v at *
        go_wp2
        go_quiet (fail)
        go_wp2
        go_ret
        exact ⟨ret_bool (HR.out.symm.trans HW.out), (by with_reducible (repeat (first | exact Ext.refl _ | apply Ext.drewN | apply Ext.drew | apply Ext.alloc | (refine Ext.set ?_ (by first | (simp; done) | (simp; omega) | omega) _) | (refine Ext.trans ?_ (by assumption)))))⟩
    · have HR : Hid (decide (h = h ∧ ps = qs) = true) := decide_eq_true ⟨rfl, HE.out (fun i hi => HA.out i (by omega))⟩
      obtain rfl : k = n := by omega
      go_wp2
      go_ret
      exact ⟨ret_bool (HR.out.symm.trans HW.out), hx⟩
set_option maxHeartbeats 2000000 in
theorem specSameRoutine_is (A B : Option Addr) (n m c d : Nat) (ps qs : List (List Int × Int)) (h g : Int) (w : World) (hP : Parts w A n ps) (hQ : Parts w B m qs) (v0 : Bool) (hv0 : decide (h = g ∧ ps = qs) = v0) :
    Calls Tryd.prog 19 #[.agg #[.int .i64 h, .slice A n c], .agg #[.int .i64 g, .slice B m d]] w fun e w' => e = .returned (.bool v0) ∧ Ext w w' := by
  have HW := Lib.hid hv0
  clear hv0
  have hs := hP.small
  have hs2 := hQ.small
  by_cases hg : h = g
  rotate_left
  · have HR : Hid (decide (h = g ∧ ps = qs) = false) := decide_eq_false (fun e => hg e.1)
    have h1 : (h != g) = true := by simpa using hg
    clear hg
    go_enter Tryd.func19, Tryd.ntmps19
    go_wp2
    go_ret
    exact ⟨ret_bool (HR.out.symm.trans HW.out), (by with_reducible (repeat (first | exact Ext.refl _ | apply Ext.drewN | apply Ext.drew | apply Ext.alloc | (refine Ext.set ?_ (by first | (simp; done) | (simp; omega) | omega) _) | (refine Ext.trans ?_ (by assumption)))))⟩
  subst hg
  by_cases hnm : n = m
  rotate_left
  · have HR : Hid (decide (h = h ∧ ps = qs) = false) := decide_eq_false (fun e => hnm (by rw [← hP.len, ← hQ.len, e.2]))
    have h1 : ((n : Int) != m) = true := by simp; omega
    clear hnm
    go_enter Tryd.func19, Tryd.ntmps19
    go_wp2
    go_ret
    exact ⟨ret_bool (HR.out.symm.trans HW.out), (by with_reducible (repeat (first | exact Ext.refl _ | apply Ext.drewN | apply Ext.drew | apply Ext.alloc | (refine Ext.set ?_ (by first | (simp; done) | (simp; omega) | omega) _) | (refine Ext.trans ?_ (by assumption)))))⟩
  subst hnm
  have HE : Hid ((∀ i, i < n → pt ps i = pt qs i ∧ tm ps i = tm qs i) → ps = qs) := fun hh => parts_eq (hP.len.trans hQ.len.symm) (fun i hi => hh i (by rw [← hP.len]; exact hi))
  go_enter Tryd.func19, Tryd.ntmps19
  go_wp2
  go_loopw [5] (fun i wr => ∃ k : Nat, k ≤ n ∧ i = .int .i64 k ∧ Ext ((w.alloc (.cells #[.int .i64 h, .slice A n c] 29)).alloc (.cells #[.int .i64 h, .slice B n d] 29)) wr ∧ ∀ j, j < k → pt ps j = pt qs j ∧ tm ps j = tm qs j) (fun i _ => n - (intOf i).toNat)
  case atStart => exact ⟨0, Nat.zero_le _, rfl, Ext.refl _, fun j h => absurd h (by omega)⟩
  case round =>
    obtain ⟨k, hk, rfl, hx0, hall⟩ := hrel
    have HA := Lib.hid hall
    clear hall
    have hz := hx0.size
    (try simp at hz)
    have hx : Ext w wr := Ext.trans (by with_reducible (repeat (first | exact Ext.refl _ | apply Ext.drewN | apply Ext.drew | apply Ext.alloc | (refine Ext.set ?_ (by first | (simp; done) | (simp; omega) | omega) _) | (refine Ext.trans ?_ (by assumption))))) hx0
    have g0 : w.heap.size < wr.heap.size := by omega
    have g1 : w.heap.size + 1 < wr.heap.size := by omega
    have a1 : wr.cell? ⟨w.heap.size, 1, none⟩ = some (.slice A n c) := hx0.cell (by first | (simp; done) | (simp; omega)) (by simp)
    have a2 : wr.cell? ⟨w.heap.size + 1, 1, none⟩ = some (.slice B n d) := hx0.cell (by first | (simp; done) | (simp; omega)) (by simp)
    by_cases hlt : k < n
    · obtain ⟨b, off, hA, hb, hcell⟩ := (hP.ext hx).at_ (by omega)
      obtain ⟨b2, off2, hB, hb2, hcell2⟩ := (hQ.ext hx).at_ (by omega)
      subst hA hB
      obtain ⟨B1, m1, d1, c0, c1, I1⟩ := hcell k hlt
      obtain ⟨B2, m2, d2, e0, e1, I2⟩ := hcell2 k hlt
      have i1 : (k : Int) < n := by omega
      clear hcell hcell2
      by_cases he : tm ps k = tm qs k
      · obtain ⟨v, hv⟩ : ∃ v, decide (pt ps k = pt qs k) = v := ⟨_, rfl⟩
        have HV := Lib.hid hv
        clear hv
        have HTE := Lib.hid he
        obtain ⟨t, ht⟩ : ∃ t, tm ps k = t := ⟨_, rfl⟩
        rw [← he, ht] at e1
        rw [ht] at c1
        clear he ht
        cases v
        · have HR : Hid (decide (h = h ∧ ps = qs) = false) := decide_eq_false (fun e => (of_decide_eq_false HV.out) (by rw [e.2]))
          go_wp2
          go_quiet ((go_at_call 45; first | with_reducible exact quiet_q (l00Same_is B1 B2 _ _ d1 d2 _ _ _ (I1.ext (by with_reducible (repeat (first | exact Ext.refl _ | apply Ext.drewN | apply Ext.drew | apply Ext.alloc | (refine Ext.set ?_ (by first | (simp; done) | (simp; omega) | omega) _) | (refine Ext.trans ?_ (by assumption)))))) (I2.ext (by with_reducible (repeat (first | exact Ext.refl _ | apply Ext.drewN | apply Ext.drew | apply Ext.alloc | (refine Ext.set ?_ (by first | (simp; done) | (simp; omega) | omega) _) | (refine Ext.trans ?_ (by assumption)))))) false HV.out) | with_reducible exact quiet_qa (l00Same_is B1 B2 _ _ d1 d2 _ _ _ (I1.ext (by with_reducible (repeat (first | exact Ext.refl _ | apply Ext.drewN | apply Ext.drew | apply Ext.alloc | (refine Ext.set ?_ (by first | (simp; done) | (simp; omega) | omega) _) | (refine Ext.trans ?_ (by assumption)))))) (I2.ext (by with_reducible (repeat (first | exact Ext.refl _ | apply Ext.drewN | apply Ext.drew | apply Ext.alloc | (refine Ext.set ?_ (by first | (simp; done) | (simp; omega) | omega) _) | (refine Ext.trans ?_ (by assumption)))))) false HV.out)))
          go_wp2
          go_ret
          exact ⟨ret_bool (HR.out.symm.trans HW.out), (by with_reducible (repeat (first | exact Ext.refl _ | apply Ext.drewN | apply Ext.drew | apply Ext.alloc | (refine Ext.set ?_ (by first | (simp; done) | (simp; omega) | omega) _) | (refine Ext.trans ?_ (by assumption)))))⟩
        · have HA2 : Hid (∀ j, j < k + 1 → pt ps j = pt qs j ∧ tm ps j = tm qs j) := fun j hj => by
            by_cases e : j = k
            · rw [e]; exact ⟨of_decide_eq_true HV.out, HTE.out⟩
            · exact HA.out j (by omega)
          go_wp2
          go_quiet ((go_at_call 45; first | with_reducible exact quiet_q (l00Same_is B1 B2 _ _ d1 d2 _ _ _ (I1.ext (by with_reducible (repeat (first | exact Ext.refl _ | apply Ext.drewN | apply Ext.drew | apply Ext.alloc | (refine Ext.set ?_ (by first | (simp; done) | (simp; omega) | omega) _) | (refine Ext.trans ?_ (by assumption)))))) (I2.ext (by with_reducible (repeat (first | exact Ext.refl _ | apply Ext.drewN | apply Ext.drew | apply Ext.alloc | (refine Ext.set ?_ (by first | (simp; done) | (simp; omega) | omega) _) | (refine Ext.trans ?_ (by assumption)))))) true HV.out) | with_reducible exact quiet_qa (l00Same_is B1 B2 _ _ d1 d2 _ _ _ (I1.ext (by with_reducible (repeat (first | exact Ext.refl _ | apply Ext.drewN | apply Ext.drew | apply Ext.alloc | (refine Ext.set ?_ (by first | (simp; done) | (simp; omega) | omega) _) | (refine Ext.trans ?_ (by assumption)))))) (I2.ext (by with_reducible (repeat (first | exact Ext.refl _ | apply Ext.drewN | apply Ext.drew | apply Ext.alloc | (refine Ext.set ?_ (by first | (simp; done) | (simp; omega) | omega) _) | (refine Ext.trans ?_ (by assumption)))))) true HV.out)))
          go_wp2
          go_roundw
          case rel => exact ⟨k + 1, by omega, by go_num, hx0.trans (by with_reducible (repeat (first | exact Ext.refl _ | apply Ext.drewN | apply Ext.drew | apply Ext.alloc | (refine Ext.set ?_ (by first | (simp; done) | (simp; omega) | omega) _) | (refine Ext.trans ?_ (by assumption))))), HA2.out⟩
          case measure => simp [intOf]; omega
      · have HR : Hid (decide (h = h ∧ ps = qs) = false) := decide_eq_false (fun e => he (by rw [e.2]))
        have hne : (tm ps k != tm qs k) = true := by simpa using he
        clear he
        generalize tm ps k = u at *
        generalize tm qs k = v at *
        go_wp2
        go_quiet (fail)
        go_wp2
        go_ret
        exact ⟨ret_bool (HR.out.symm.trans HW.out), (by with_reducible (repeat (first | exact Ext.refl _ | apply Ext.drewN | apply Ext.drew | apply Ext.alloc | (refine Ext.set ?_ (by first | (simp; done) | (simp; omega) | omega) _) | (refine Ext.trans ?_ (by assumption)))))⟩
    · have HR : Hid (decide (h = h ∧ ps = qs) = true) := decide_eq_true ⟨rfl, HE.out (fun i hi => HA.out i (by omega))⟩
      obtain rfl : k = n := by omega
      go_wp2
      go_ret
      exact ⟨ret_bool (HR.out.symm.trans HW.out), hx⟩
end Go.Proofs.YtinkaglngblddaaDoor
