/- Sma Prs Npb Sdp Sdr in one text (a claim has at most 60 files). No condition but the stated bounds. -/
import Derived.Test.YtbihbhdaenhdoaaGreatNrs
import Derived.Test.YtbihbhdaenhdoaaGreatCnx
import Derived.Test.YtbihbhdaenhdoaaGreatFj7
import Derived.Test.YtbihbhdaenhdoaaGreatFj5
import Derived.Test.YtbihbhdaenhdoaaGreatFj8
import Derived.Test.YtbihbhdaenhdoaaGreatFj6
import Derived.Deep.CutRange
namespace Go.Proofs.YtbihbhdaenhdoaaGreat
set_option linter.unusedVariables false
set_option linter.unusedSimpArgs false
open Go.ChangeShapes Go.WideShapes Go.ChangeAt Go.RowKit Go.Joins Go.Deep

/-- Two notations are the same. -/
def sme (D E : ND) : Bool := decide (D.k = E.k) && (decide (D.p = E.p) && (decide (D.m = E.m) && (decide (D.s = E.s) && (decide (D.a = E.a) && decide (D.b = E.b)))))
theorem sme_self (D : ND) : sme D D = true := by simp [sme]
theorem blkS_ext {w w' : World} {b : Nat} {o : Obj} (hb : w.heap[b]? = some o) (k : Ext w w') : w'.heap[b]? = some o :=
  (Below.block k b (Array.getElem?_eq_some_iff.1 hb).1).trans hb
theorem blkS2 {w : World} {b : Nat} {x y : Value} {t : TypeId} (h : w.heap[b]? = some (.cells #[x, y] t)) : (w.cell? ⟨b, 0, none⟩ = some x ∧ w.cell? ⟨b, 1, none⟩ = some y) ∧ (w.frozen? ⟨b, 0, none⟩ = false ∧ w.frozen? ⟨b, 1, none⟩ = false) :=
  ⟨⟨(cell_of_block h _).trans rfl, (cell_of_block h _).trans rfl⟩, unfrozen_of_block h _, unfrozen_of_block h _⟩
theorem ll_eq {L M : List (List Int)} (hl : L.length = M.length) (h : ∀ i, i < L.length → ll L i = ll M i) : L = M := by
  apply List.ext_getElem hl
  intro i h1 h2
  have := h i h1
  unfold ll at this
  rw [List.getElem?_eq_getElem h1, List.getElem?_eq_getElem h2] at this
  simpa using this
set_option maxHeartbeats 1000000 in
theorem l06SameE_any (A B : Option Addr) (n m c d : Nat) (ts us : List (Int × Bool)) (w : World) (hI : Thr w A n ts) (hJ : Thr w B m us) :
    Calls Tryz.prog 86 #[.slice A n c, .slice B m d] w fun e w' => e = .returned (.bool (decide (ts = us))) ∧ Ext w w' := by
  have hs := hI.small
  have hs2 := hJ.small
  by_cases hnm : n = m
  · subst hnm
    have HE : Hid ((∀ k, k < n → tv ts k = tv us k ∧ tp ts k = tp us k) → ts = us) := fun h => thr_ext (by rw [hI.len, hJ.len]) (fun i hi => h i (by rw [hI.len] at hi; exact hi))
    go_enter Tryz.func86, Tryz.ntmps86
    go_wp2
    go_loopw [5] (fun i wr => ∃ k : Nat, k ≤ n ∧ i = .int .i64 k ∧ Qt w wr ∧ ∀ j, j < k → tv ts j = tv us j ∧ tp ts j = tp us j) (fun i _ => n - (intOf i).toNat)
    case atStart => exact ⟨0, Nat.zero_le _, rfl, Qt.refl _, fun j h => absurd h (by omega)⟩
    case round =>
      obtain ⟨k, hk, rfl, ⟨q, rfl⟩, hall⟩ := hrel
      have HA := Lib.hid hall
      clear hall
      by_cases hlt : k < n
      · obtain ⟨b, off, hA, hb, hcell⟩ := hI.at_ (by omega)
        obtain ⟨b2, off2, hB, hb2, hcell2⟩ := hJ.at_ (by omega)
        subst hA hB
        obtain ⟨c1, c3⟩ := hcell k hlt
        obtain ⟨c2, c4⟩ := hcell2 k hlt
        have i1 : (k : Int) < n := by omega
        clear hcell hcell2
        by_cases he : tv ts k = tv us k ∧ tp ts k = tp us k
        · have HA2 : Hid (∀ j, j < k + 1 → tv ts j = tv us j ∧ tp ts j = tp us j) := fun j hj => by
            by_cases e : j = k
            · rw [e]; exact he
            · exact HA.out j (by omega)
          rw [he.1] at c1
          rw [he.2] at c3
          clear he HA
          generalize tv us k = x at c1 c2
          generalize tp us k = p at c3 c4
          go_wp2
          go_quiet (fail)
          go_wp2
          go_roundw
          case rel => exact ⟨k + 1, by omega, by go_num, (by first | exact ⟨_, rfl⟩ | exact ⟨_, World.drewN_drewN _ _ _⟩), HA2.out⟩
          case measure => simp [intOf]; omega
        · have HR : Hid (decide (ts = us) = false) := decide_eq_false (fun h => he ⟨by rw [h], by rw [h]⟩)
          clear HA HE
          by_cases e0 : tv ts k = tv us k
          rotate_left
          · have HNE : (tv ts k == tv us k) = false := beq_eq_false_iff_ne.2 e0
            clear e0 he
            generalize tv ts k = y0 at *
            generalize tp ts k = y1 at *
            generalize tv us k = x0 at *
            generalize tp us k = x1 at *
            go_wp2
            go_quiet (fail)
            go_wp2
            go_ret
            exact ⟨ret_bool HR.out.symm, Ext.qt (Ext.refl _) (by first | exact ⟨_, rfl⟩ | exact ⟨_, World.drewN_drewN _ _ _⟩)⟩
          rw [e0] at c1
          have e1 : ¬ tp ts k = tp us k := fun h => he ⟨e0, h⟩
          clear e0
          have HNE : (tp ts k == tp us k) = false := beq_eq_false_iff_ne.2 e1
          clear e1 he
          generalize tp ts k = y1 at *
          generalize tv us k = x0 at *
          generalize tp us k = x1 at *
          go_wp2
          go_quiet (fail)
          go_wp2
          go_ret
          exact ⟨ret_bool HR.out.symm, Ext.qt (Ext.refl _) (by first | exact ⟨_, rfl⟩ | exact ⟨_, World.drewN_drewN _ _ _⟩)⟩
      · have HR : Hid (decide (ts = us) = true) := decide_eq_true (HE.out (fun i hi => HA.out i (by omega)))
        obtain rfl : k = n := by omega
        go_wp2
        go_ret
        exact ⟨ret_bool HR.out.symm, Ext.qt (Ext.refl _) (by first | exact ⟨_, rfl⟩ | exact ⟨_, World.drewN_drewN _ _ _⟩)⟩
  · have HR : Hid (decide (ts = us) = false) := decide_eq_false (fun h => hnm (by have h1 := hI.len; have h2 := hJ.len; rw [h] at h1; omega))
    have h1 : ((n : Int) != m) = true := by simp; omega
    go_enter Tryz.func86, Tryz.ntmps86
    go_wp2
    go_ret
    exact ⟨ret_bool HR.out.symm, (by with_reducible (repeat (first | exact Ext.refl _ | apply Ext.drewN | apply Ext.drew | apply Ext.alloc | (refine Ext.set ?_ (by first | (simp; done) | (simp; omega) | omega) _) | (refine Ext.trans ?_ (by assumption)))))⟩
theorem l06SameE_is (A B : Option Addr) (n m c d : Nat) (ts us : List (Int × Bool)) (v : Bool) (hv : decide (ts = us) = v) (w : World) (hI : Thr w A n ts) (hJ : Thr w B m us) :
    Calls Tryz.prog 86 #[.slice A n c, .slice B m d] w fun e w' => e = .returned (.bool v) ∧ Ext w w' := by
  subst hv
  exact l06SameE_any A B n m c d ts us w hI hJ
set_option maxHeartbeats 1000000 in
theorem sameThrowsE_any (A B : Option Addr) (n m c d : Nat) (ts us : List (Int × Bool)) (w : World) (hI : Thr w A n ts) (hJ : Thr w B m us) :
    Calls Tryz.prog 87 #[.slice A n c, .slice B m d] w fun e w' => e = .returned (.bool (decide (ts = us))) ∧ Ext w w' := by
  have hs := hI.small
  have hs2 := hJ.small
  by_cases hnm : n = m
  · subst hnm
    have HE : Hid ((∀ k, k < n → tv ts k = tv us k ∧ tp ts k = tp us k) → ts = us) := fun h => thr_ext (by rw [hI.len, hJ.len]) (fun i hi => h i (by rw [hI.len] at hi; exact hi))
    go_enter Tryz.func87, Tryz.ntmps87
    go_wp2
    go_loopw [13, 5] (fun i _ wr => ∃ k : Nat, k ≤ n ∧ i = .int .i64 k ∧ Qt w wr ∧ ∀ j, j < k → tv ts j = tv us j ∧ tp ts j = tp us j) (fun i _ _ => n - (intOf i).toNat)
    case atStart => exact ⟨0, Nat.zero_le _, rfl, Qt.refl _, fun j h => absurd h (by omega)⟩
    case round =>
      obtain ⟨k, hk, rfl, ⟨q, rfl⟩, hall⟩ := hrel
      have HA := Lib.hid hall
      clear hall
      by_cases hlt : k < n
      · obtain ⟨b, off, hA, hb, hcell⟩ := hI.at_ (by omega)
        obtain ⟨b2, off2, hB, hb2, hcell2⟩ := hJ.at_ (by omega)
        subst hA hB
        obtain ⟨c1, c3⟩ := hcell k hlt
        obtain ⟨c2, c4⟩ := hcell2 k hlt
        have i1 : (k : Int) < n := by omega
        clear hcell hcell2
        by_cases he : tv ts k = tv us k ∧ tp ts k = tp us k
        · have HA2 : Hid (∀ j, j < k + 1 → tv ts j = tv us j ∧ tp ts j = tp us j) := fun j hj => by
            by_cases e : j = k
            · rw [e]; exact he
            · exact HA.out j (by omega)
          rw [he.1] at c1
          rw [he.2] at c3
          clear he HA
          generalize tv us k = x at c1 c2
          generalize tp us k = p at c3 c4
          go_wp2
          go_quiet (fail)
          go_wp2
          go_roundw
          case rel => exact ⟨k + 1, by omega, by go_num, (by first | exact ⟨_, rfl⟩ | exact ⟨_, World.drewN_drewN _ _ _⟩), HA2.out⟩
          case measure => simp [intOf]; omega
        · have HR : Hid (decide (ts = us) = false) := decide_eq_false (fun h => he ⟨by rw [h], by rw [h]⟩)
          clear HA HE
          by_cases e0 : tv ts k = tv us k
          rotate_left
          · have HNE : (tv ts k == tv us k) = false := beq_eq_false_iff_ne.2 e0
            clear e0 he
            generalize tv ts k = y0 at *
            generalize tp ts k = y1 at *
            generalize tv us k = x0 at *
            generalize tp us k = x1 at *
            go_wp2
            go_quiet (fail)
            go_wp2
            go_ret
            exact ⟨ret_bool HR.out.symm, Ext.qt (Ext.refl _) (by first | exact ⟨_, rfl⟩ | exact ⟨_, World.drewN_drewN _ _ _⟩)⟩
          rw [e0] at c1
          have e1 : ¬ tp ts k = tp us k := fun h => he ⟨e0, h⟩
          clear e0
          have HNE : (tp ts k == tp us k) = false := beq_eq_false_iff_ne.2 e1
          clear e1 he
          generalize tp ts k = y1 at *
          generalize tv us k = x0 at *
          generalize tp us k = x1 at *
          go_wp2
          go_quiet (fail)
          go_wp2
          go_ret
          exact ⟨ret_bool HR.out.symm, Ext.qt (Ext.refl _) (by first | exact ⟨_, rfl⟩ | exact ⟨_, World.drewN_drewN _ _ _⟩)⟩
      · have HR : Hid (decide (ts = us) = true) := decide_eq_true (HE.out (fun i hi => HA.out i (by omega)))
        obtain rfl : k = n := by omega
        go_wp2
        go_ret
        exact ⟨ret_bool HR.out.symm, Ext.qt (Ext.refl _) (by first | exact ⟨_, rfl⟩ | exact ⟨_, World.drewN_drewN _ _ _⟩)⟩
  · have HR : Hid (decide (ts = us) = false) := decide_eq_false (fun h => hnm (by have h1 := hI.len; have h2 := hJ.len; rw [h] at h1; omega))
    have h1 : ((n : Int) != m) = true := by simp; omega
    go_enter Tryz.func87, Tryz.ntmps87
    go_wp2
    go_ret
    exact ⟨ret_bool HR.out.symm, (by with_reducible (repeat (first | exact Ext.refl _ | apply Ext.drewN | apply Ext.drew | apply Ext.alloc | (refine Ext.set ?_ (by first | (simp; done) | (simp; omega) | omega) _) | (refine Ext.trans ?_ (by assumption)))))⟩
theorem sameThrowsE_is (A B : Option Addr) (n m c d : Nat) (ts us : List (Int × Bool)) (v : Bool) (hv : decide (ts = us) = v) (w : World) (hI : Thr w A n ts) (hJ : Thr w B m us) :
    Calls Tryz.prog 87 #[.slice A n c, .slice B m d] w fun e w' => e = .returned (.bool v) ∧ Ext w w' := by
  subst hv
  exact sameThrowsE_any A B n m c d ts us w hI hJ
set_option maxHeartbeats 1000000 in
theorem specSameSyncE_any (A B : Option Addr) (n m c d : Nat) (ts us : List (Int × Bool)) (w : World) (hI : Syn w A n ts) (hJ : Syn w B m us) :
    Calls Tryz.prog 45 #[.slice A n c, .slice B m d] w fun e w' => e = .returned (.bool (decide (ts = us))) ∧ Ext w w' := by
  have hs := hI.small
  have hs2 := hJ.small
  by_cases hnm : n = m
  · subst hnm
    have HE : Hid ((∀ k, k < n → (tv ts (2 * k) = tv us (2 * k) ∧ tp ts (2 * k) = tp us (2 * k)) ∧ tv ts (2 * k + 1) = tv us (2 * k + 1) ∧ tp ts (2 * k + 1) = tp us (2 * k + 1)) → ts = us) := fun h => thr_ext (by rw [hI.len, hJ.len]) (fun i hi => by
        rw [hI.len] at hi
        rcases (by omega : i = 2 * (i / 2) ∨ i = 2 * (i / 2) + 1) with e | e
        · rw [e]; exact (h (i / 2) (by omega)).1
        · rw [e]; exact (h (i / 2) (by omega)).2)
    go_enter Tryz.func45, Tryz.ntmps45
    go_wp2
    go_loopw [5] (fun i wr => ∃ k : Nat, k ≤ n ∧ i = .int .i64 k ∧ Qt w wr ∧ ∀ j, j < k → (tv ts (2 * j) = tv us (2 * j) ∧ tp ts (2 * j) = tp us (2 * j)) ∧ tv ts (2 * j + 1) = tv us (2 * j + 1) ∧ tp ts (2 * j + 1) = tp us (2 * j + 1)) (fun i _ => n - (intOf i).toNat)
    case atStart => exact ⟨0, Nat.zero_le _, rfl, Qt.refl _, fun j h => absurd h (by omega)⟩
    case round =>
      obtain ⟨k, hk, rfl, ⟨q, rfl⟩, hall⟩ := hrel
      have HA := Lib.hid hall
      clear hall
      by_cases hlt : k < n
      · obtain ⟨b, off, hA, hb, hcell⟩ := hI.at_ (by omega)
        obtain ⟨b2, off2, hB, hb2, hcell2⟩ := hJ.at_ (by omega)
        subst hA hB
        obtain ⟨c1, c3, c5, c7⟩ := hcell k hlt
        obtain ⟨c2, c4, c6, c8⟩ := hcell2 k hlt
        have i1 : (k : Int) < n := by omega
        clear hcell hcell2
        by_cases he : (tv ts (2 * k) = tv us (2 * k) ∧ tp ts (2 * k) = tp us (2 * k)) ∧ tv ts (2 * k + 1) = tv us (2 * k + 1) ∧ tp ts (2 * k + 1) = tp us (2 * k + 1)
        · have HA2 : Hid (∀ j, j < k + 1 → (tv ts (2 * j) = tv us (2 * j) ∧ tp ts (2 * j) = tp us (2 * j)) ∧ tv ts (2 * j + 1) = tv us (2 * j + 1) ∧ tp ts (2 * j + 1) = tp us (2 * j + 1)) := fun j hj => by
            by_cases e : j = k
            · rw [e]; exact he
            · exact HA.out j (by omega)
          rw [he.1.1] at c1
          rw [he.1.2] at c3
          rw [he.2.1] at c5
          rw [he.2.2] at c7
          clear he HA
          generalize tv us (2 * k) = x at c1 c2
          generalize tp us (2 * k) = p at c3 c4
          generalize tv us (2 * k + 1) = x2 at c5 c6
          generalize tp us (2 * k + 1) = p2 at c7 c8
          go_wp2
          go_quiet (fail)
          go_wp2
          go_roundw
          case rel => exact ⟨k + 1, by omega, by go_num, (by first | exact ⟨_, rfl⟩ | exact ⟨_, World.drewN_drewN _ _ _⟩), HA2.out⟩
          case measure => simp [intOf]; omega
        · have HR : Hid (decide (ts = us) = false) := decide_eq_false (fun h => he ⟨⟨by rw [h], by rw [h]⟩, by rw [h], by rw [h]⟩)
          clear HA HE
          by_cases e0 : tv ts (2 * k) = tv us (2 * k)
          rotate_left
          · have HNE : (tv ts (2 * k) == tv us (2 * k)) = false := beq_eq_false_iff_ne.2 e0
            clear e0 he
            generalize tv ts (2 * k) = y0 at *
            generalize tp ts (2 * k) = y1 at *
            generalize tv ts (2 * k + 1) = y2 at *
            generalize tp ts (2 * k + 1) = y3 at *
            generalize tv us (2 * k) = x0 at *
            generalize tp us (2 * k) = x1 at *
            generalize tv us (2 * k + 1) = x2 at *
            generalize tp us (2 * k + 1) = x3 at *
            go_wp2
            go_quiet (fail)
            go_wp2
            go_ret
            exact ⟨ret_bool HR.out.symm, Ext.qt (Ext.refl _) (by first | exact ⟨_, rfl⟩ | exact ⟨_, World.drewN_drewN _ _ _⟩)⟩
          rw [e0] at c1
          by_cases e1 : tp ts (2 * k) = tp us (2 * k)
          rotate_left
          · have HNE : (tp ts (2 * k) == tp us (2 * k)) = false := beq_eq_false_iff_ne.2 e1
            clear e1 he
            generalize tp ts (2 * k) = y1 at *
            generalize tv ts (2 * k + 1) = y2 at *
            generalize tp ts (2 * k + 1) = y3 at *
            generalize tv us (2 * k) = x0 at *
            generalize tp us (2 * k) = x1 at *
            generalize tv us (2 * k + 1) = x2 at *
            generalize tp us (2 * k + 1) = x3 at *
            go_wp2
            go_quiet (fail)
            go_wp2
            go_ret
            exact ⟨ret_bool HR.out.symm, Ext.qt (Ext.refl _) (by first | exact ⟨_, rfl⟩ | exact ⟨_, World.drewN_drewN _ _ _⟩)⟩
          rw [e1] at c3
          by_cases e2 : tv ts (2 * k + 1) = tv us (2 * k + 1)
          rotate_left
          · have HNE : (tv ts (2 * k + 1) == tv us (2 * k + 1)) = false := beq_eq_false_iff_ne.2 e2
            clear e2 he
            generalize tv ts (2 * k + 1) = y2 at *
            generalize tp ts (2 * k + 1) = y3 at *
            generalize tv us (2 * k) = x0 at *
            generalize tp us (2 * k) = x1 at *
            generalize tv us (2 * k + 1) = x2 at *
            generalize tp us (2 * k + 1) = x3 at *
            go_wp2
            go_quiet (fail)
            go_wp2
            go_ret
            exact ⟨ret_bool HR.out.symm, Ext.qt (Ext.refl _) (by first | exact ⟨_, rfl⟩ | exact ⟨_, World.drewN_drewN _ _ _⟩)⟩
          rw [e2] at c5
          have e3 : ¬ tp ts (2 * k + 1) = tp us (2 * k + 1) := fun h => he ⟨⟨e0, e1⟩, e2, h⟩
          clear e0 e1 e2
          have HNE : (tp ts (2 * k + 1) == tp us (2 * k + 1)) = false := beq_eq_false_iff_ne.2 e3
          clear e3 he
          generalize tp ts (2 * k + 1) = y3 at *
          generalize tv us (2 * k) = x0 at *
          generalize tp us (2 * k) = x1 at *
          generalize tv us (2 * k + 1) = x2 at *
          generalize tp us (2 * k + 1) = x3 at *
          go_wp2
          go_quiet (fail)
          go_wp2
          go_ret
          exact ⟨ret_bool HR.out.symm, Ext.qt (Ext.refl _) (by first | exact ⟨_, rfl⟩ | exact ⟨_, World.drewN_drewN _ _ _⟩)⟩
      · have HR : Hid (decide (ts = us) = true) := decide_eq_true (HE.out (fun i hi => HA.out i (by omega)))
        obtain rfl : k = n := by omega
        go_wp2
        go_ret
        exact ⟨ret_bool HR.out.symm, Ext.qt (Ext.refl _) (by first | exact ⟨_, rfl⟩ | exact ⟨_, World.drewN_drewN _ _ _⟩)⟩
  · have HR : Hid (decide (ts = us) = false) := decide_eq_false (fun h => hnm (by have h1 := hI.len; have h2 := hJ.len; rw [h] at h1; omega))
    have h1 : ((n : Int) != m) = true := by simp; omega
    go_enter Tryz.func45, Tryz.ntmps45
    go_wp2
    go_ret
    exact ⟨ret_bool HR.out.symm, (by with_reducible (repeat (first | exact Ext.refl _ | apply Ext.drewN | apply Ext.drew | apply Ext.alloc | (refine Ext.set ?_ (by first | (simp; done) | (simp; omega) | omega) _) | (refine Ext.trans ?_ (by assumption)))))⟩
theorem specSameSyncE_is (A B : Option Addr) (n m c d : Nat) (ts us : List (Int × Bool)) (v : Bool) (hv : decide (ts = us) = v) (w : World) (hI : Syn w A n ts) (hJ : Syn w B m us) :
    Calls Tryz.prog 45 #[.slice A n c, .slice B m d] w fun e w' => e = .returned (.bool v) ∧ Ext w w' := by
  subst hv
  exact specSameSyncE_any A B n m c d ts us w hI hJ
set_option maxHeartbeats 1000000 in
theorem implSameSyncE_any (A B : Option Addr) (n m c d : Nat) (ts us : List (Int × Bool)) (w : World) (hI : Syn w A n ts) (hJ : Syn w B m us) :
    Calls Tryz.prog 49 #[.slice A n c, .slice B m d] w fun e w' => e = .returned (.bool (decide (ts = us))) ∧ Ext w w' := by
  have hs := hI.small
  have hs2 := hJ.small
  by_cases hnm : n = m
  · subst hnm
    have HE : Hid ((∀ k, k < n → (tv ts (2 * k) = tv us (2 * k) ∧ tp ts (2 * k) = tp us (2 * k)) ∧ tv ts (2 * k + 1) = tv us (2 * k + 1) ∧ tp ts (2 * k + 1) = tp us (2 * k + 1)) → ts = us) := fun h => thr_ext (by rw [hI.len, hJ.len]) (fun i hi => by
        rw [hI.len] at hi
        rcases (by omega : i = 2 * (i / 2) ∨ i = 2 * (i / 2) + 1) with e | e
        · rw [e]; exact (h (i / 2) (by omega)).1
        · rw [e]; exact (h (i / 2) (by omega)).2)
    go_enter Tryz.func49, Tryz.ntmps49
    go_wp2
    go_loopw [13, 5] (fun i _ wr => ∃ k : Nat, k ≤ n ∧ i = .int .i64 k ∧ Qt w wr ∧ ∀ j, j < k → (tv ts (2 * j) = tv us (2 * j) ∧ tp ts (2 * j) = tp us (2 * j)) ∧ tv ts (2 * j + 1) = tv us (2 * j + 1) ∧ tp ts (2 * j + 1) = tp us (2 * j + 1)) (fun i _ _ => n - (intOf i).toNat)
    case atStart => exact ⟨0, Nat.zero_le _, rfl, Qt.refl _, fun j h => absurd h (by omega)⟩
    case round =>
      obtain ⟨k, hk, rfl, ⟨q, rfl⟩, hall⟩ := hrel
      have HA := Lib.hid hall
      clear hall
      by_cases hlt : k < n
      · obtain ⟨b, off, hA, hb, hcell⟩ := hI.at_ (by omega)
        obtain ⟨b2, off2, hB, hb2, hcell2⟩ := hJ.at_ (by omega)
        subst hA hB
        obtain ⟨c1, c3, c5, c7⟩ := hcell k hlt
        obtain ⟨c2, c4, c6, c8⟩ := hcell2 k hlt
        have i1 : (k : Int) < n := by omega
        clear hcell hcell2
        by_cases he : (tv ts (2 * k) = tv us (2 * k) ∧ tp ts (2 * k) = tp us (2 * k)) ∧ tv ts (2 * k + 1) = tv us (2 * k + 1) ∧ tp ts (2 * k + 1) = tp us (2 * k + 1)
        · have HA2 : Hid (∀ j, j < k + 1 → (tv ts (2 * j) = tv us (2 * j) ∧ tp ts (2 * j) = tp us (2 * j)) ∧ tv ts (2 * j + 1) = tv us (2 * j + 1) ∧ tp ts (2 * j + 1) = tp us (2 * j + 1)) := fun j hj => by
            by_cases e : j = k
            · rw [e]; exact he
            · exact HA.out j (by omega)
          rw [he.1.1] at c1
          rw [he.1.2] at c3
          rw [he.2.1] at c5
          rw [he.2.2] at c7
          clear he HA
          generalize tv us (2 * k) = x at c1 c2
          generalize tp us (2 * k) = p at c3 c4
          generalize tv us (2 * k + 1) = x2 at c5 c6
          generalize tp us (2 * k + 1) = p2 at c7 c8
          go_wp2
          go_quiet (fail)
          go_wp2
          go_roundw
          case rel => exact ⟨k + 1, by omega, by go_num, (by first | exact ⟨_, rfl⟩ | exact ⟨_, World.drewN_drewN _ _ _⟩), HA2.out⟩
          case measure => simp [intOf]; omega
        · have HR : Hid (decide (ts = us) = false) := decide_eq_false (fun h => he ⟨⟨by rw [h], by rw [h]⟩, by rw [h], by rw [h]⟩)
          clear HA HE
          by_cases e0 : tv ts (2 * k) = tv us (2 * k)
          rotate_left
          · have HNE : (tv ts (2 * k) == tv us (2 * k)) = false := beq_eq_false_iff_ne.2 e0
            clear e0 he
            generalize tv ts (2 * k) = y0 at *
            generalize tp ts (2 * k) = y1 at *
            generalize tv ts (2 * k + 1) = y2 at *
            generalize tp ts (2 * k + 1) = y3 at *
            generalize tv us (2 * k) = x0 at *
            generalize tp us (2 * k) = x1 at *
            generalize tv us (2 * k + 1) = x2 at *
            generalize tp us (2 * k + 1) = x3 at *
            go_wp2
            go_quiet (fail)
            go_wp2
            go_ret
            exact ⟨ret_bool HR.out.symm, Ext.qt (Ext.refl _) (by first | exact ⟨_, rfl⟩ | exact ⟨_, World.drewN_drewN _ _ _⟩)⟩
          rw [e0] at c1
          by_cases e1 : tp ts (2 * k) = tp us (2 * k)
          rotate_left
          · have HNE : (tp ts (2 * k) == tp us (2 * k)) = false := beq_eq_false_iff_ne.2 e1
            clear e1 he
            generalize tp ts (2 * k) = y1 at *
            generalize tv ts (2 * k + 1) = y2 at *
            generalize tp ts (2 * k + 1) = y3 at *
            generalize tv us (2 * k) = x0 at *
            generalize tp us (2 * k) = x1 at *
            generalize tv us (2 * k + 1) = x2 at *
            generalize tp us (2 * k + 1) = x3 at *
            go_wp2
            go_quiet (fail)
            go_wp2
            go_ret
            exact ⟨ret_bool HR.out.symm, Ext.qt (Ext.refl _) (by first | exact ⟨_, rfl⟩ | exact ⟨_, World.drewN_drewN _ _ _⟩)⟩
          rw [e1] at c3
          by_cases e2 : tv ts (2 * k + 1) = tv us (2 * k + 1)
          rotate_left
          · have HNE : (tv ts (2 * k + 1) == tv us (2 * k + 1)) = false := beq_eq_false_iff_ne.2 e2
            clear e2 he
            generalize tv ts (2 * k + 1) = y2 at *
            generalize tp ts (2 * k + 1) = y3 at *
            generalize tv us (2 * k) = x0 at *
            generalize tp us (2 * k) = x1 at *
            generalize tv us (2 * k + 1) = x2 at *
            generalize tp us (2 * k + 1) = x3 at *
            go_wp2
            go_quiet (fail)
            go_wp2
            go_ret
            exact ⟨ret_bool HR.out.symm, Ext.qt (Ext.refl _) (by first | exact ⟨_, rfl⟩ | exact ⟨_, World.drewN_drewN _ _ _⟩)⟩
          rw [e2] at c5
          have e3 : ¬ tp ts (2 * k + 1) = tp us (2 * k + 1) := fun h => he ⟨⟨e0, e1⟩, e2, h⟩
          clear e0 e1 e2
          have HNE : (tp ts (2 * k + 1) == tp us (2 * k + 1)) = false := beq_eq_false_iff_ne.2 e3
          clear e3 he
          generalize tp ts (2 * k + 1) = y3 at *
          generalize tv us (2 * k) = x0 at *
          generalize tp us (2 * k) = x1 at *
          generalize tv us (2 * k + 1) = x2 at *
          generalize tp us (2 * k + 1) = x3 at *
          go_wp2
          go_quiet (fail)
          go_wp2
          go_ret
          exact ⟨ret_bool HR.out.symm, Ext.qt (Ext.refl _) (by first | exact ⟨_, rfl⟩ | exact ⟨_, World.drewN_drewN _ _ _⟩)⟩
      · have HR : Hid (decide (ts = us) = true) := decide_eq_true (HE.out (fun i hi => HA.out i (by omega)))
        obtain rfl : k = n := by omega
        go_wp2
        go_ret
        exact ⟨ret_bool HR.out.symm, Ext.qt (Ext.refl _) (by first | exact ⟨_, rfl⟩ | exact ⟨_, World.drewN_drewN _ _ _⟩)⟩
  · have HR : Hid (decide (ts = us) = false) := decide_eq_false (fun h => hnm (by have h1 := hI.len; have h2 := hJ.len; rw [h] at h1; omega))
    have h1 : ((n : Int) != m) = true := by simp; omega
    go_enter Tryz.func49, Tryz.ntmps49
    go_wp2
    go_ret
    exact ⟨ret_bool HR.out.symm, (by with_reducible (repeat (first | exact Ext.refl _ | apply Ext.drewN | apply Ext.drew | apply Ext.alloc | (refine Ext.set ?_ (by first | (simp; done) | (simp; omega) | omega) _) | (refine Ext.trans ?_ (by assumption)))))⟩
theorem implSameSyncE_is (A B : Option Addr) (n m c d : Nat) (ts us : List (Int × Bool)) (v : Bool) (hv : decide (ts = us) = v) (w : World) (hI : Syn w A n ts) (hJ : Syn w B m us) :
    Calls Tryz.prog 49 #[.slice A n c, .slice B m d] w fun e w' => e = .returned (.bool v) ∧ Ext w w' := by
  subst hv
  exact implSameSyncE_any A B n m c d ts us w hI hJ
set_option maxHeartbeats 2000000 in
theorem specSameMulti_any (A B : Option Addr) (n m c d : Nat) (L M : List (List Int)) (w : World) (hI : Lists w A n L) (hJ : Lists w B m M) :
    Calls Tryz.prog 44 #[.agg #[.slice A n c], .agg #[.slice B m d]] w fun e w' => e = .returned (.bool (decide (L = M))) ∧ Ext w w' := by
  have hs := hI.small
  have hs2 := hJ.small
  by_cases hnm : n = m
  · subst hnm
    have HE : Hid ((∀ k, k < n → ll L k = ll M k) → L = M) := fun h => ll_eq (by rw [hI.len, hJ.len]) (fun i hi => h i (by rw [hI.len] at hi; exact hi))
    go_enter Tryz.func44, Tryz.ntmps44
    go_wp2
    go_loopw [5] (fun i wr => ∃ k : Nat, k ≤ n ∧ i = .int .i64 k ∧ Qt ((w.alloc (.cells #[.slice A n c] 27)).alloc (.cells #[.slice B n d] 27)) wr ∧ ∀ j, j < k → ll L j = ll M j) (fun i _ => n - (intOf i).toNat)
    case atStart => exact ⟨0, Nat.zero_le _, rfl, Qt.refl _, fun j h => absurd h (by omega)⟩
    case round =>
      obtain ⟨k, hk, rfl, ⟨q, rfl⟩, hall⟩ := hrel
      have HA := Lib.hid hall
      clear hall
      by_cases hlt : k < n
      · obtain ⟨b, off, hA, hb, hcell⟩ := hI.at_ (by omega)
        obtain ⟨b2, off2, hB, hb2, hcell2⟩ := hJ.at_ (by omega)
        subst hA hB
        obtain ⟨A1, n1, m1, c1, hi1⟩ := hcell k hlt
        obtain ⟨A2, n2, m2, c2, hi2⟩ := hcell2 k hlt
        have i1 : (k : Int) < n := by omega
        clear hcell hcell2
        cases hv : decide (ll L k = ll M k)
        · have HR : Hid (decide (L = M) = false) := decide_eq_false (fun h => of_decide_eq_false hv (by rw [h]))
          clear HA HE
          have HV := Lib.hid hv
          clear hv
          go_wp2
          go_quiet ((go_at_call 43; first | with_reducible exact quiet_q (l00SameN_is _ _ _ _ _ _ _ _ _ (hi1.ext (by with_reducible (repeat (first | exact Ext.refl _ | apply Ext.drewN | apply Ext.drew | apply Ext.alloc | (refine Ext.set ?_ (by first | (simp; done) | (simp; omega) | omega) _) | (refine Ext.trans ?_ (by assumption)))))) (hi2.ext (by with_reducible (repeat (first | exact Ext.refl _ | apply Ext.drewN | apply Ext.drew | apply Ext.alloc | (refine Ext.set ?_ (by first | (simp; done) | (simp; omega) | omega) _) | (refine Ext.trans ?_ (by assumption)))))) _ HV.out) | with_reducible exact quiet_qa (l00SameN_is _ _ _ _ _ _ _ _ _ (hi1.ext (by with_reducible (repeat (first | exact Ext.refl _ | apply Ext.drewN | apply Ext.drew | apply Ext.alloc | (refine Ext.set ?_ (by first | (simp; done) | (simp; omega) | omega) _) | (refine Ext.trans ?_ (by assumption)))))) (hi2.ext (by with_reducible (repeat (first | exact Ext.refl _ | apply Ext.drewN | apply Ext.drew | apply Ext.alloc | (refine Ext.set ?_ (by first | (simp; done) | (simp; omega) | omega) _) | (refine Ext.trans ?_ (by assumption)))))) _ HV.out)))
          go_wp2
          go_ret
          exact ⟨ret_bool HR.out.symm, (by with_reducible (repeat (first | exact Ext.refl _ | apply Ext.drewN | apply Ext.drew | apply Ext.alloc | (refine Ext.set ?_ (by first | (simp; done) | (simp; omega) | omega) _) | (refine Ext.trans ?_ (by assumption)))))⟩
        · have HA2 : Hid (∀ j, j < k + 1 → ll L j = ll M j) := fun j hj => by
            by_cases e : j = k
            · rw [e]; exact of_decide_eq_true hv
            · exact HA.out j (by omega)
          clear HA
          have HV := Lib.hid hv
          clear hv
          go_wp2
          go_quiet ((go_at_call 43; first | with_reducible exact quiet_q (l00SameN_is _ _ _ _ _ _ _ _ _ (hi1.ext (by with_reducible (repeat (first | exact Ext.refl _ | apply Ext.drewN | apply Ext.drew | apply Ext.alloc | (refine Ext.set ?_ (by first | (simp; done) | (simp; omega) | omega) _) | (refine Ext.trans ?_ (by assumption)))))) (hi2.ext (by with_reducible (repeat (first | exact Ext.refl _ | apply Ext.drewN | apply Ext.drew | apply Ext.alloc | (refine Ext.set ?_ (by first | (simp; done) | (simp; omega) | omega) _) | (refine Ext.trans ?_ (by assumption)))))) _ HV.out) | with_reducible exact quiet_qa (l00SameN_is _ _ _ _ _ _ _ _ _ (hi1.ext (by with_reducible (repeat (first | exact Ext.refl _ | apply Ext.drewN | apply Ext.drew | apply Ext.alloc | (refine Ext.set ?_ (by first | (simp; done) | (simp; omega) | omega) _) | (refine Ext.trans ?_ (by assumption)))))) (hi2.ext (by with_reducible (repeat (first | exact Ext.refl _ | apply Ext.drewN | apply Ext.drew | apply Ext.alloc | (refine Ext.set ?_ (by first | (simp; done) | (simp; omega) | omega) _) | (refine Ext.trans ?_ (by assumption)))))) _ HV.out)))
          go_wp2
          go_roundw
          case rel => exact ⟨k + 1, by omega, by go_num, (by first | exact ⟨_, rfl⟩ | exact ⟨_, World.drewN_drewN _ _ _⟩), HA2.out⟩
          case measure => simp [intOf]; omega
      · have HR : Hid (decide (L = M) = true) := decide_eq_true (HE.out (fun i hi => HA.out i (by omega)))
        obtain rfl : k = n := by omega
        go_wp2
        go_ret
        exact ⟨ret_bool HR.out.symm, (by with_reducible (repeat (first | exact Ext.refl _ | apply Ext.drewN | apply Ext.drew | apply Ext.alloc | (refine Ext.set ?_ (by first | (simp; done) | (simp; omega) | omega) _) | (refine Ext.trans ?_ (by assumption)))))⟩
  · have HR : Hid (decide (L = M) = false) := decide_eq_false (fun h => hnm (by have h1 := hI.len; have h2 := hJ.len; rw [h] at h1; omega))
    have h1 : ((n : Int) != m) = true := by simp; omega
    go_enter Tryz.func44, Tryz.ntmps44
    go_wp2
    go_ret
    exact ⟨ret_bool HR.out.symm, (by with_reducible (repeat (first | exact Ext.refl _ | apply Ext.drewN | apply Ext.drew | apply Ext.alloc | (refine Ext.set ?_ (by first | (simp; done) | (simp; omega) | omega) _) | (refine Ext.trans ?_ (by assumption)))))⟩
theorem specSameMulti_is (A B : Option Addr) (n m c d : Nat) (L M : List (List Int)) (v : Bool) (hv : decide (L = M) = v) (w : World) (hI : Lists w A n L) (hJ : Lists w B m M) :
    Calls Tryz.prog 44 #[.agg #[.slice A n c], .agg #[.slice B m d]] w fun e w' => e = .returned (.bool v) ∧ Ext w w' := by
  subst hv
  exact specSameMulti_any A B n m c d L M w hI hJ
set_option maxHeartbeats 2000000 in
theorem implSameMulti_any (A B : Option Addr) (n m c d : Nat) (L M : List (List Int)) (w : World) (hI : Lists w A n L) (hJ : Lists w B m M) :
    Calls Tryz.prog 48 #[.agg #[.slice A n c], .agg #[.slice B m d]] w fun e w' => e = .returned (.bool (decide (L = M))) ∧ Ext w w' := by
  have hs := hI.small
  have hs2 := hJ.small
  by_cases hnm : n = m
  · subst hnm
    have HE : Hid ((∀ k, k < n → ll L k = ll M k) → L = M) := fun h => ll_eq (by rw [hI.len, hJ.len]) (fun i hi => h i (by rw [hI.len] at hi; exact hi))
    go_enter Tryz.func48, Tryz.ntmps48
    go_wp2
    go_loopw [16, 5] (fun i _ wr => ∃ k : Nat, k ≤ n ∧ i = .int .i64 k ∧ Qt ((w.alloc (.cells #[.slice A n c] 27)).alloc (.cells #[.slice B n d] 27)) wr ∧ ∀ j, j < k → ll L j = ll M j) (fun i _ _ => n - (intOf i).toNat)
    case atStart => exact ⟨0, Nat.zero_le _, rfl, Qt.refl _, fun j h => absurd h (by omega)⟩
    case round =>
      obtain ⟨k, hk, rfl, ⟨q, rfl⟩, hall⟩ := hrel
      have HA := Lib.hid hall
      clear hall
      by_cases hlt : k < n
      · obtain ⟨b, off, hA, hb, hcell⟩ := hI.at_ (by omega)
        obtain ⟨b2, off2, hB, hb2, hcell2⟩ := hJ.at_ (by omega)
        subst hA hB
        obtain ⟨A1, n1, m1, c1, hi1⟩ := hcell k hlt
        obtain ⟨A2, n2, m2, c2, hi2⟩ := hcell2 k hlt
        have i1 : (k : Int) < n := by omega
        clear hcell hcell2
        cases hv : decide (ll L k = ll M k)
        · have HR : Hid (decide (L = M) = false) := decide_eq_false (fun h => of_decide_eq_false hv (by rw [h]))
          clear HA HE
          have HV := Lib.hid hv
          clear hv
          go_wp2
          go_quiet ((go_at_call 47; first | with_reducible exact quiet_q (sameNumbers_is _ _ _ _ _ _ _ _ _ (hi1.ext (by with_reducible (repeat (first | exact Ext.refl _ | apply Ext.drewN | apply Ext.drew | apply Ext.alloc | (refine Ext.set ?_ (by first | (simp; done) | (simp; omega) | omega) _) | (refine Ext.trans ?_ (by assumption)))))) (hi2.ext (by with_reducible (repeat (first | exact Ext.refl _ | apply Ext.drewN | apply Ext.drew | apply Ext.alloc | (refine Ext.set ?_ (by first | (simp; done) | (simp; omega) | omega) _) | (refine Ext.trans ?_ (by assumption)))))) _ HV.out) | with_reducible exact quiet_qa (sameNumbers_is _ _ _ _ _ _ _ _ _ (hi1.ext (by with_reducible (repeat (first | exact Ext.refl _ | apply Ext.drewN | apply Ext.drew | apply Ext.alloc | (refine Ext.set ?_ (by first | (simp; done) | (simp; omega) | omega) _) | (refine Ext.trans ?_ (by assumption)))))) (hi2.ext (by with_reducible (repeat (first | exact Ext.refl _ | apply Ext.drewN | apply Ext.drew | apply Ext.alloc | (refine Ext.set ?_ (by first | (simp; done) | (simp; omega) | omega) _) | (refine Ext.trans ?_ (by assumption)))))) _ HV.out)))
          go_wp2
          go_ret
          exact ⟨ret_bool HR.out.symm, (by with_reducible (repeat (first | exact Ext.refl _ | apply Ext.drewN | apply Ext.drew | apply Ext.alloc | (refine Ext.set ?_ (by first | (simp; done) | (simp; omega) | omega) _) | (refine Ext.trans ?_ (by assumption)))))⟩
        · have HA2 : Hid (∀ j, j < k + 1 → ll L j = ll M j) := fun j hj => by
            by_cases e : j = k
            · rw [e]; exact of_decide_eq_true hv
            · exact HA.out j (by omega)
          clear HA
          have HV := Lib.hid hv
          clear hv
          go_wp2
          go_quiet ((go_at_call 47; first | with_reducible exact quiet_q (sameNumbers_is _ _ _ _ _ _ _ _ _ (hi1.ext (by with_reducible (repeat (first | exact Ext.refl _ | apply Ext.drewN | apply Ext.drew | apply Ext.alloc | (refine Ext.set ?_ (by first | (simp; done) | (simp; omega) | omega) _) | (refine Ext.trans ?_ (by assumption)))))) (hi2.ext (by with_reducible (repeat (first | exact Ext.refl _ | apply Ext.drewN | apply Ext.drew | apply Ext.alloc | (refine Ext.set ?_ (by first | (simp; done) | (simp; omega) | omega) _) | (refine Ext.trans ?_ (by assumption)))))) _ HV.out) | with_reducible exact quiet_qa (sameNumbers_is _ _ _ _ _ _ _ _ _ (hi1.ext (by with_reducible (repeat (first | exact Ext.refl _ | apply Ext.drewN | apply Ext.drew | apply Ext.alloc | (refine Ext.set ?_ (by first | (simp; done) | (simp; omega) | omega) _) | (refine Ext.trans ?_ (by assumption)))))) (hi2.ext (by with_reducible (repeat (first | exact Ext.refl _ | apply Ext.drewN | apply Ext.drew | apply Ext.alloc | (refine Ext.set ?_ (by first | (simp; done) | (simp; omega) | omega) _) | (refine Ext.trans ?_ (by assumption)))))) _ HV.out)))
          go_wp2
          go_roundw
          case rel => exact ⟨k + 1, by omega, by go_num, (by first | exact ⟨_, rfl⟩ | exact ⟨_, World.drewN_drewN _ _ _⟩), HA2.out⟩
          case measure => simp [intOf]; omega
      · have HR : Hid (decide (L = M) = true) := decide_eq_true (HE.out (fun i hi => HA.out i (by omega)))
        obtain rfl : k = n := by omega
        go_wp2
        go_ret
        exact ⟨ret_bool HR.out.symm, (by with_reducible (repeat (first | exact Ext.refl _ | apply Ext.drewN | apply Ext.drew | apply Ext.alloc | (refine Ext.set ?_ (by first | (simp; done) | (simp; omega) | omega) _) | (refine Ext.trans ?_ (by assumption)))))⟩
  · have HR : Hid (decide (L = M) = false) := decide_eq_false (fun h => hnm (by have h1 := hI.len; have h2 := hJ.len; rw [h] at h1; omega))
    have h1 : ((n : Int) != m) = true := by simp; omega
    go_enter Tryz.func48, Tryz.ntmps48
    go_wp2
    go_ret
    exact ⟨ret_bool HR.out.symm, (by with_reducible (repeat (first | exact Ext.refl _ | apply Ext.drewN | apply Ext.drew | apply Ext.alloc | (refine Ext.set ?_ (by first | (simp; done) | (simp; omega) | omega) _) | (refine Ext.trans ?_ (by assumption)))))⟩
theorem implSameMulti_is (A B : Option Addr) (n m c d : Nat) (L M : List (List Int)) (v : Bool) (hv : decide (L = M) = v) (w : World) (hI : Lists w A n L) (hJ : Lists w B m M) :
    Calls Tryz.prog 48 #[.agg #[.slice A n c], .agg #[.slice B m d]] w fun e w' => e = .returned (.bool v) ∧ Ext w w' := by
  subst hv
  exact implSameMulti_any A B n m c d L M w hI hJ
set_option maxHeartbeats 2000000 in
theorem specSamePassing_any (A B A' B' : Option Addr) (n c m d n' c' m' d' : Nat) (ts us ts' us' : List (Int × Bool)) (w : World) (hA : Thr w A n ts) (hB : Thr w B m us) (hA' : Thr w A' n' ts') (hB' : Thr w B' m' us') :
    Calls Tryz.prog 46 #[.agg #[.slice A n c, .slice B m d], .agg #[.slice A' n' c', .slice B' m' d']] w (fun e w' => e = .returned (.bool (decide (ts = ts') && decide (us = us'))) ∧ Ext w w') := by
  cases hv : decide (ts = ts')
  · go_enter Tryz.func46, Tryz.ntmps46
    go_wp2_with fail
    (with_reducible refine (l06SameE_is A A' n n' c c' ts ts' _ hv _ (hA.ext (by with_reducible (repeat (first | exact Ext.refl _ | apply Ext.drewN | apply Ext.drew | apply Ext.alloc | (refine Ext.set ?_ (by first | (simp; done) | (simp; omega) | omega) _) | (refine Ext.trans ?_ (by assumption)))))) (hA'.ext (by with_reducible (repeat (first | exact Ext.refl _ | apply Ext.drewN | apply Ext.drew | apply Ext.alloc | (refine Ext.set ?_ (by first | (simp; done) | (simp; omega) | omega) _) | (refine Ext.trans ?_ (by assumption))))))).mono ?_)
    rintro e w1 ⟨rfl, hx1⟩
    have HX : Hid (Ext w w1) := Ext.trans (by with_reducible (repeat (first | exact Ext.refl _ | apply Ext.drewN | apply Ext.drew | apply Ext.alloc | (refine Ext.set ?_ (by first | (simp; done) | (simp; omega) | omega) _) | (refine Ext.trans ?_ (by assumption))))) hx1
    clear hx1
    go_wp2
    go_ret
    exact ⟨rfl, HX.out⟩
  · have HV2 : Hid (∃ v2, decide (us = us') = v2) := ⟨_, rfl⟩
    obtain ⟨v2, hv2⟩ := HV2.out
    have H2 := Lib.hid hv2
    rw [Bool.true_and, hv2]
    clear hv2 HV2
    go_enter Tryz.func46, Tryz.ntmps46
    go_wp2_with fail
    (with_reducible refine (l06SameE_is A A' n n' c c' ts ts' _ hv _ (hA.ext (by with_reducible (repeat (first | exact Ext.refl _ | apply Ext.drewN | apply Ext.drew | apply Ext.alloc | (refine Ext.set ?_ (by first | (simp; done) | (simp; omega) | omega) _) | (refine Ext.trans ?_ (by assumption)))))) (hA'.ext (by with_reducible (repeat (first | exact Ext.refl _ | apply Ext.drewN | apply Ext.drew | apply Ext.alloc | (refine Ext.set ?_ (by first | (simp; done) | (simp; omega) | omega) _) | (refine Ext.trans ?_ (by assumption))))))).mono ?_)
    rintro e w1 ⟨rfl, hx1⟩
    have hX := blkS_ext (blkS_ext (heap_alloc_new w (.cells #[.slice A n c, .slice B m d] 31)) ((Ext.refl _).alloc (.cells #[.slice A' n' c', .slice B' m' d'] 31))) hx1
    have hY := blkS_ext (heap_alloc_new (w.alloc (.cells #[.slice A n c, .slice B m d] 31)) (.cells #[.slice A' n' c', .slice B' m' d'] 31)) hx1
    rw [World.size_alloc] at hY
    obtain ⟨⟨q0, q1⟩, f0, f1⟩ := blkS2 hX
    obtain ⟨⟨r0, r1⟩, s0, s1⟩ := blkS2 hY
    have hE : Ext w w1 := Ext.trans (by with_reducible (repeat (first | exact Ext.refl _ | apply Ext.drewN | apply Ext.drew | apply Ext.alloc | (refine Ext.set ?_ (by first | (simp; done) | (simp; omega) | omega) _) | (refine Ext.trans ?_ (by assumption))))) hx1
    have hBn := hB.ext hE
    have hBn' := hB'.ext hE
    have HE := Lib.hid hE
    clear hX hY hx1 hE hv
    go_wp2_with fail
    (with_reducible refine (l06SameE_is B B' m m' d d' us us' _ H2.out _ hBn hBn').mono ?_)
    rintro e w2 ⟨rfl, hx2⟩
    have HX : Hid (Ext w w2) := Ext.trans HE.out hx2
    clear hx2
    go_wp2
    go_ret
    exact ⟨rfl, HX.out⟩
theorem specSamePassing_is (A B A' B' : Option Addr) (n c m d n' c' m' d' : Nat) (ts us ts' us' : List (Int × Bool)) (v : Bool) (hv : (decide (ts = ts') && decide (us = us')) = v) (w : World) (hA : Thr w A n ts) (hB : Thr w B m us) (hA' : Thr w A' n' ts') (hB' : Thr w B' m' us') :
    Calls Tryz.prog 46 #[.agg #[.slice A n c, .slice B m d], .agg #[.slice A' n' c', .slice B' m' d']] w (fun e w' => e = .returned (.bool v) ∧ Ext w w') := by
  subst hv
  exact specSamePassing_any A B A' B' n c m d n' c' m' d' ts us ts' us' w hA hB hA' hB'
set_option maxHeartbeats 2000000 in
theorem implSamePassing_any (A B A' B' : Option Addr) (n c m d n' c' m' d' : Nat) (ts us ts' us' : List (Int × Bool)) (w : World) (hA : Thr w A n ts) (hB : Thr w B m us) (hA' : Thr w A' n' ts') (hB' : Thr w B' m' us') :
    Calls Tryz.prog 50 #[.agg #[.slice A n c, .slice B m d], .agg #[.slice A' n' c', .slice B' m' d']] w (fun e w' => e = .returned (.bool (decide (ts = ts') && decide (us = us'))) ∧ Ext w w') := by
  cases hv : decide (ts = ts')
  · go_enter Tryz.func50, Tryz.ntmps50
    go_wp2_with fail
    (with_reducible refine (sameThrowsE_is A A' n n' c c' ts ts' _ hv _ (hA.ext (by with_reducible (repeat (first | exact Ext.refl _ | apply Ext.drewN | apply Ext.drew | apply Ext.alloc | (refine Ext.set ?_ (by first | (simp; done) | (simp; omega) | omega) _) | (refine Ext.trans ?_ (by assumption)))))) (hA'.ext (by with_reducible (repeat (first | exact Ext.refl _ | apply Ext.drewN | apply Ext.drew | apply Ext.alloc | (refine Ext.set ?_ (by first | (simp; done) | (simp; omega) | omega) _) | (refine Ext.trans ?_ (by assumption))))))).mono ?_)
    rintro e w1 ⟨rfl, hx1⟩
    have HX : Hid (Ext w w1) := Ext.trans (by with_reducible (repeat (first | exact Ext.refl _ | apply Ext.drewN | apply Ext.drew | apply Ext.alloc | (refine Ext.set ?_ (by first | (simp; done) | (simp; omega) | omega) _) | (refine Ext.trans ?_ (by assumption))))) hx1
    clear hx1
    go_wp2
    go_ret
    exact ⟨rfl, HX.out⟩
  · have HV2 : Hid (∃ v2, decide (us = us') = v2) := ⟨_, rfl⟩
    obtain ⟨v2, hv2⟩ := HV2.out
    have H2 := Lib.hid hv2
    rw [Bool.true_and, hv2]
    clear hv2 HV2
    go_enter Tryz.func50, Tryz.ntmps50
    go_wp2_with fail
    (with_reducible refine (sameThrowsE_is A A' n n' c c' ts ts' _ hv _ (hA.ext (by with_reducible (repeat (first | exact Ext.refl _ | apply Ext.drewN | apply Ext.drew | apply Ext.alloc | (refine Ext.set ?_ (by first | (simp; done) | (simp; omega) | omega) _) | (refine Ext.trans ?_ (by assumption)))))) (hA'.ext (by with_reducible (repeat (first | exact Ext.refl _ | apply Ext.drewN | apply Ext.drew | apply Ext.alloc | (refine Ext.set ?_ (by first | (simp; done) | (simp; omega) | omega) _) | (refine Ext.trans ?_ (by assumption))))))).mono ?_)
    rintro e w1 ⟨rfl, hx1⟩
    have hX := blkS_ext (blkS_ext (heap_alloc_new w (.cells #[.slice A n c, .slice B m d] 31)) ((Ext.refl _).alloc (.cells #[.slice A' n' c', .slice B' m' d'] 31))) hx1
    have hY := blkS_ext (heap_alloc_new (w.alloc (.cells #[.slice A n c, .slice B m d] 31)) (.cells #[.slice A' n' c', .slice B' m' d'] 31)) hx1
    rw [World.size_alloc] at hY
    obtain ⟨⟨q0, q1⟩, f0, f1⟩ := blkS2 hX
    obtain ⟨⟨r0, r1⟩, s0, s1⟩ := blkS2 hY
    have hE : Ext w w1 := Ext.trans (by with_reducible (repeat (first | exact Ext.refl _ | apply Ext.drewN | apply Ext.drew | apply Ext.alloc | (refine Ext.set ?_ (by first | (simp; done) | (simp; omega) | omega) _) | (refine Ext.trans ?_ (by assumption))))) hx1
    have hBn := hB.ext hE
    have hBn' := hB'.ext hE
    have HE := Lib.hid hE
    clear hX hY hx1 hE hv
    go_wp2_with fail
    (with_reducible refine (sameThrowsE_is B B' m m' d d' us us' _ H2.out _ hBn hBn').mono ?_)
    rintro e w2 ⟨rfl, hx2⟩
    have HX : Hid (Ext w w2) := Ext.trans HE.out hx2
    clear hx2
    go_wp2
    go_ret
    exact ⟨rfl, HX.out⟩
theorem implSamePassing_is (A B A' B' : Option Addr) (n c m d n' c' m' d' : Nat) (ts us ts' us' : List (Int × Bool)) (v : Bool) (hv : (decide (ts = ts') && decide (us = us')) = v) (w : World) (hA : Thr w A n ts) (hB : Thr w B m us) (hA' : Thr w A' n' ts') (hB' : Thr w B' m' us') :
    Calls Tryz.prog 50 #[.agg #[.slice A n c, .slice B m d], .agg #[.slice A' n' c', .slice B' m' d']] w (fun e w' => e = .returned (.bool v) ∧ Ext w w') := by
  subst hv
  exact implSamePassing_any A B A' B' n c m d n' c' m' d' ts us ts' us' w hA hB hA' hB'
theorem l00SameE_is (A B : Option Addr) (n m c d : Nat) (xs ys : List Int) (v : Bool) (hv : decide (xs = ys) = v) (w : World) (hI : Ints w A n xs) (hJ : Ints w B m ys) :
    Calls Tryz.prog 43 #[.slice A n c, .slice B m d] w fun e w' => e = .returned (.bool v) ∧ Ext w w' :=
  (l00SameN_is A B n m c d xs ys w hI hJ v hv).mono fun _ _ ⟨h1, h2⟩ => ⟨h1, Ext.qt (Ext.refl _) h2⟩
set_option maxHeartbeats 8000000 in
theorem specSameNotation_any (V U : NV) (D E : ND) (w : World) (hI : NtR w V D) (hJ : NtR w U E) :
    Calls Tryz.prog 14 #[V.val, U.val] w fun e w' => e = .returned (.bool (sme D E)) ∧ Ext w w' := by
  have N1 : Hid (NBox ((w.alloc (.cells #[.int .i64 V.k, .slice V.A V.na V.ca, .slice V.B V.nb V.cb, .slice V.S V.ns V.cs, .slice V.P V.np V.cp, .slice V.Q V.nq V.cq] 33)).alloc (.cells #[.int .i64 U.k, .slice U.A U.na U.ca, .slice U.B U.nb U.cb, .slice U.S U.ns U.cs, .slice U.P U.np U.cp, .slice U.Q U.nq U.cq] 33)) w.heap.size V) := (NBox.new w V).ext ((Ext.refl _).alloc _)
  have N2 : Hid (NBox ((w.alloc (.cells #[.int .i64 V.k, .slice V.A V.na V.ca, .slice V.B V.nb V.cb, .slice V.S V.ns V.cs, .slice V.P V.np V.cp, .slice V.Q V.nq V.cq] 33)).alloc (.cells #[.int .i64 U.k, .slice U.A U.na U.ca, .slice U.B U.nb U.cb, .slice U.S U.ns U.cs, .slice U.P U.np U.cp, .slice U.Q U.nq U.cq] 33)) (w.heap.size + 1) U) := by
    have h := NBox.new (w.alloc (.cells #[.int .i64 V.k, .slice V.A V.na V.ca, .slice V.B V.nb V.cb, .slice V.S V.ns V.cs, .slice V.P V.np V.cp, .slice V.Q V.nq V.cq] 33)) U
    rwa [World.size_alloc] at h
  obtain ⟨k, A, na, ca, B, nb, cb, S, ns, cs, P, np, cp, Q, nq, cq⟩ := V
  obtain ⟨k', A', na', ca', B', nb', cb', S', ns', cs', P', np', cp', Q', nq', cq'⟩ := U
  obtain ⟨kk, dp, dm, ds, da, db⟩ := D
  obtain ⟨kk', dp', dm', ds', da', db'⟩ := E
  obtain ⟨hk, hp, hm, hs, ha, hb⟩ := hI
  obtain ⟨hk', hp', hm', hs', ha', hb'⟩ := hJ
  unfold NV.val sme
  dsimp only at *
  subst hk hk'
  have HX0 : Hid (Ext w ((w.alloc (.cells #[.int .i64 k, .slice A na ca, .slice B nb cb, .slice S ns cs, .slice P np cp, .slice Q nq cq] 33)).alloc (.cells #[.int .i64 k', .slice A' na' ca', .slice B' nb' cb', .slice S' ns' cs', .slice P' np' cp', .slice Q' nq' cq'] 33))) := ((Ext.refl _).alloc _).alloc _
  by_cases hkk : k = k'
  rotate_left
  · have hkb : (k == k') = false := by simpa using hkk
    rw [decide_eq_false hkk, Bool.false_and]
    clear N1 N2
    go_enter Tryz.func14, Tryz.ntmps14
    go_wp2
    go_ret
    exact ⟨rfl, HX0.out⟩
  subst hkk
  rw [decide_eq_true rfl, Bool.true_and]
  cases hv1 : decide (dp = dp')
  · have HV1 := Lib.hid hv1
    rw [Bool.false_and]
    clear hv1
    go_enter Tryz.func14, Tryz.ntmps14
    go_wp2_with fail
    (with_reducible refine (l00SameE_is A A' na na' ca ca' dp dp' _ HV1.out _ (hp.ext HX0.out) (hp'.ext HX0.out)).mono ?_)
    rintro e w1 ⟨rfl, hx⟩
    have HX1 : Hid (Ext w w1) := HX0.out.trans hx
    clear hx N1 N2
    go_wp2
    go_ret
    exact ⟨rfl, HX1.out⟩
  · rw [Bool.true_and]
    have HV1 := Lib.hid hv1
    clear hv1
    cases hv2 : decide (dm = dm')
    · have HV2 := Lib.hid hv2
      rw [Bool.false_and]
      clear hv2
      go_enter Tryz.func14, Tryz.ntmps14
      go_wp2_with fail
      (with_reducible refine (l00SameE_is A A' na na' ca ca' dp dp' _ HV1.out _ (hp.ext HX0.out) (hp'.ext HX0.out)).mono ?_)
      rintro e w1 ⟨rfl, hx⟩
      have HX1 : Hid (Ext w w1) := HX0.out.trans hx
      have M1 := Lib.hid (N1.out.ext hx)
      have M2 := Lib.hid (N2.out.ext hx)
      clear N1 N2 hx
      have N1 := M1
      have N2 := M2
      clear M1 M2
      have HZ := N1
      obtain ⟨z0, c0, c1, c2, c3, c4, c5⟩ := HZ.out
      have HY := N2
      obtain ⟨y0, e0, e1, e2, e3, e4, e5⟩ := HY.out
      clear HZ HY
      dsimp only at c0 c1 c2 c3 c4 c5 e0 e1 e2 e3 e4 e5
      go_wp2_with fail
      (with_reducible refine (specSameMulti_is B B' nb nb' cb cb' dm dm' _ HV2.out _ (hm.ext HX1.out) (hm'.ext HX1.out)).mono ?_)
      rintro e w2 ⟨rfl, hx⟩
      have HX2 : Hid (Ext w w2) := HX1.out.trans hx
      clear hx N1 N2
      go_wp2
      go_ret
      exact ⟨rfl, HX2.out⟩
    · rw [Bool.true_and]
      have HV2 := Lib.hid hv2
      clear hv2
      cases hv3 : decide (ds = ds')
      · have HV3 := Lib.hid hv3
        rw [Bool.false_and]
        clear hv3
        go_enter Tryz.func14, Tryz.ntmps14
        go_wp2_with fail
        (with_reducible refine (l00SameE_is A A' na na' ca ca' dp dp' _ HV1.out _ (hp.ext HX0.out) (hp'.ext HX0.out)).mono ?_)
        rintro e w1 ⟨rfl, hx⟩
        have HX1 : Hid (Ext w w1) := HX0.out.trans hx
        have M1 := Lib.hid (N1.out.ext hx)
        have M2 := Lib.hid (N2.out.ext hx)
        clear N1 N2 hx
        have N1 := M1
        have N2 := M2
        clear M1 M2
        have HZ := N1
        obtain ⟨z0, c0, c1, c2, c3, c4, c5⟩ := HZ.out
        have HY := N2
        obtain ⟨y0, e0, e1, e2, e3, e4, e5⟩ := HY.out
        clear HZ HY
        dsimp only at c0 c1 c2 c3 c4 c5 e0 e1 e2 e3 e4 e5
        go_wp2_with fail
        (with_reducible refine (specSameMulti_is B B' nb nb' cb cb' dm dm' _ HV2.out _ (hm.ext HX1.out) (hm'.ext HX1.out)).mono ?_)
        rintro e w2 ⟨rfl, hx⟩
        have HX2 : Hid (Ext w w2) := HX1.out.trans hx
        have M1 := Lib.hid (N1.out.ext hx)
        have M2 := Lib.hid (N2.out.ext hx)
        clear N1 N2 hx
        have N1 := M1
        have N2 := M2
        clear M1 M2
        have HZ := N1
        obtain ⟨z0, c0, c1, c2, c3, c4, c5⟩ := HZ.out
        have HY := N2
        obtain ⟨y0, e0, e1, e2, e3, e4, e5⟩ := HY.out
        clear HZ HY
        dsimp only at c0 c1 c2 c3 c4 c5 e0 e1 e2 e3 e4 e5
        go_wp2_with fail
        (with_reducible refine (specSameSyncE_is S S' ns ns' cs cs' ds ds' _ HV3.out _ (hs.ext HX2.out) (hs'.ext HX2.out)).mono ?_)
        rintro e w3 ⟨rfl, hx⟩
        have HX3 : Hid (Ext w w3) := HX2.out.trans hx
        clear hx N1 N2
        go_wp2
        go_ret
        exact ⟨rfl, HX3.out⟩
      · rw [Bool.true_and]
        have HV3 := Lib.hid hv3
        clear hv3
        obtain ⟨v4, hv4⟩ : ∃ v, (decide (da = da') && decide (db = db')) = v := ⟨_, rfl⟩
        have HV4 := Lib.hid hv4
        rw [hv4]
        clear hv4
        go_enter Tryz.func14, Tryz.ntmps14
        go_wp2_with fail
        (with_reducible refine (l00SameE_is A A' na na' ca ca' dp dp' _ HV1.out _ (hp.ext HX0.out) (hp'.ext HX0.out)).mono ?_)
        rintro e w1 ⟨rfl, hx⟩
        have HX1 : Hid (Ext w w1) := HX0.out.trans hx
        have M1 := Lib.hid (N1.out.ext hx)
        have M2 := Lib.hid (N2.out.ext hx)
        clear N1 N2 hx
        have N1 := M1
        have N2 := M2
        clear M1 M2
        have HZ := N1
        obtain ⟨z0, c0, c1, c2, c3, c4, c5⟩ := HZ.out
        have HY := N2
        obtain ⟨y0, e0, e1, e2, e3, e4, e5⟩ := HY.out
        clear HZ HY
        dsimp only at c0 c1 c2 c3 c4 c5 e0 e1 e2 e3 e4 e5
        go_wp2_with fail
        (with_reducible refine (specSameMulti_is B B' nb nb' cb cb' dm dm' _ HV2.out _ (hm.ext HX1.out) (hm'.ext HX1.out)).mono ?_)
        rintro e w2 ⟨rfl, hx⟩
        have HX2 : Hid (Ext w w2) := HX1.out.trans hx
        have M1 := Lib.hid (N1.out.ext hx)
        have M2 := Lib.hid (N2.out.ext hx)
        clear N1 N2 hx
        have N1 := M1
        have N2 := M2
        clear M1 M2
        have HZ := N1
        obtain ⟨z0, c0, c1, c2, c3, c4, c5⟩ := HZ.out
        have HY := N2
        obtain ⟨y0, e0, e1, e2, e3, e4, e5⟩ := HY.out
        clear HZ HY
        dsimp only at c0 c1 c2 c3 c4 c5 e0 e1 e2 e3 e4 e5
        go_wp2_with fail
        (with_reducible refine (specSameSyncE_is S S' ns ns' cs cs' ds ds' _ HV3.out _ (hs.ext HX2.out) (hs'.ext HX2.out)).mono ?_)
        rintro e w3 ⟨rfl, hx⟩
        have HX3 : Hid (Ext w w3) := HX2.out.trans hx
        have M1 := Lib.hid (N1.out.ext hx)
        have M2 := Lib.hid (N2.out.ext hx)
        clear N1 N2 hx
        have N1 := M1
        have N2 := M2
        clear M1 M2
        have HZ := N1
        obtain ⟨z0, c0, c1, c2, c3, c4, c5⟩ := HZ.out
        have HY := N2
        obtain ⟨y0, e0, e1, e2, e3, e4, e5⟩ := HY.out
        clear HZ HY
        dsimp only at c0 c1 c2 c3 c4 c5 e0 e1 e2 e3 e4 e5
        go_wp2_with fail
        (with_reducible refine (specSamePassing_is P Q P' Q' np cp nq cq np' cp' nq' cq' da db da' db' _ HV4.out _ (ha.ext HX3.out) (hb.ext HX3.out) (ha'.ext HX3.out) (hb'.ext HX3.out)).mono ?_)
        rintro e w4 ⟨rfl, hx⟩
        have HX4 : Hid (Ext w w4) := HX3.out.trans hx
        clear hx N1 N2
        go_wp2
        go_ret
        exact ⟨rfl, HX4.out⟩
theorem sameNumbersE_is (A B : Option Addr) (n m c d : Nat) (xs ys : List Int) (v : Bool) (hv : decide (xs = ys) = v) (w : World) (hI : Ints w A n xs) (hJ : Ints w B m ys) :
    Calls Tryz.prog 47 #[.slice A n c, .slice B m d] w fun e w' => e = .returned (.bool v) ∧ Ext w w' :=
  (sameNumbers_is A B n m c d xs ys w hI hJ v hv).mono fun _ _ ⟨h1, h2⟩ => ⟨h1, Ext.qt (Ext.refl _) h2⟩
set_option maxHeartbeats 8000000 in
theorem implSameNotation_any (V U : NV) (D E : ND) (w : World) (hI : NtR w V D) (hJ : NtR w U E) :
    Calls Tryz.prog 15 #[V.val, U.val] w fun e w' => e = .returned (.bool (sme D E)) ∧ Ext w w' := by
  have N1 : Hid (NBox ((w.alloc (.cells #[.int .i64 V.k, .slice V.A V.na V.ca, .slice V.B V.nb V.cb, .slice V.S V.ns V.cs, .slice V.P V.np V.cp, .slice V.Q V.nq V.cq] 33)).alloc (.cells #[.int .i64 U.k, .slice U.A U.na U.ca, .slice U.B U.nb U.cb, .slice U.S U.ns U.cs, .slice U.P U.np U.cp, .slice U.Q U.nq U.cq] 33)) w.heap.size V) := (NBox.new w V).ext ((Ext.refl _).alloc _)
  have N2 : Hid (NBox ((w.alloc (.cells #[.int .i64 V.k, .slice V.A V.na V.ca, .slice V.B V.nb V.cb, .slice V.S V.ns V.cs, .slice V.P V.np V.cp, .slice V.Q V.nq V.cq] 33)).alloc (.cells #[.int .i64 U.k, .slice U.A U.na U.ca, .slice U.B U.nb U.cb, .slice U.S U.ns U.cs, .slice U.P U.np U.cp, .slice U.Q U.nq U.cq] 33)) (w.heap.size + 1) U) := by
    have h := NBox.new (w.alloc (.cells #[.int .i64 V.k, .slice V.A V.na V.ca, .slice V.B V.nb V.cb, .slice V.S V.ns V.cs, .slice V.P V.np V.cp, .slice V.Q V.nq V.cq] 33)) U
    rwa [World.size_alloc] at h
  obtain ⟨k, A, na, ca, B, nb, cb, S, ns, cs, P, np, cp, Q, nq, cq⟩ := V
  obtain ⟨k', A', na', ca', B', nb', cb', S', ns', cs', P', np', cp', Q', nq', cq'⟩ := U
  obtain ⟨kk, dp, dm, ds, da, db⟩ := D
  obtain ⟨kk', dp', dm', ds', da', db'⟩ := E
  obtain ⟨hk, hp, hm, hs, ha, hb⟩ := hI
  obtain ⟨hk', hp', hm', hs', ha', hb'⟩ := hJ
  unfold NV.val sme
  dsimp only at *
  subst hk hk'
  have HX0 : Hid (Ext w ((w.alloc (.cells #[.int .i64 k, .slice A na ca, .slice B nb cb, .slice S ns cs, .slice P np cp, .slice Q nq cq] 33)).alloc (.cells #[.int .i64 k', .slice A' na' ca', .slice B' nb' cb', .slice S' ns' cs', .slice P' np' cp', .slice Q' nq' cq'] 33))) := ((Ext.refl _).alloc _).alloc _
  by_cases hkk : k = k'
  rotate_left
  · have hkb : (k == k') = false := by simpa using hkk
    rw [decide_eq_false hkk, Bool.false_and]
    clear N1 N2
    go_enter Tryz.func15, Tryz.ntmps15
    go_wp2
    go_ret
    exact ⟨rfl, HX0.out⟩
  subst hkk
  rw [decide_eq_true rfl, Bool.true_and]
  cases hv1 : decide (dp = dp')
  · have HV1 := Lib.hid hv1
    rw [Bool.false_and]
    clear hv1
    go_enter Tryz.func15, Tryz.ntmps15
    go_wp2_with fail
    (with_reducible refine (sameNumbersE_is A A' na na' ca ca' dp dp' _ HV1.out _ (hp.ext HX0.out) (hp'.ext HX0.out)).mono ?_)
    rintro e w1 ⟨rfl, hx⟩
    have HX1 : Hid (Ext w w1) := HX0.out.trans hx
    clear hx N1 N2
    go_wp2
    go_ret
    exact ⟨rfl, HX1.out⟩
  · rw [Bool.true_and]
    have HV1 := Lib.hid hv1
    clear hv1
    cases hv2 : decide (dm = dm')
    · have HV2 := Lib.hid hv2
      rw [Bool.false_and]
      clear hv2
      go_enter Tryz.func15, Tryz.ntmps15
      go_wp2_with fail
      (with_reducible refine (sameNumbersE_is A A' na na' ca ca' dp dp' _ HV1.out _ (hp.ext HX0.out) (hp'.ext HX0.out)).mono ?_)
      rintro e w1 ⟨rfl, hx⟩
      have HX1 : Hid (Ext w w1) := HX0.out.trans hx
      have M1 := Lib.hid (N1.out.ext hx)
      have M2 := Lib.hid (N2.out.ext hx)
      clear N1 N2 hx
      have N1 := M1
      have N2 := M2
      clear M1 M2
      have HZ := N1
      obtain ⟨z0, c0, c1, c2, c3, c4, c5⟩ := HZ.out
      have HY := N2
      obtain ⟨y0, e0, e1, e2, e3, e4, e5⟩ := HY.out
      clear HZ HY
      dsimp only at c0 c1 c2 c3 c4 c5 e0 e1 e2 e3 e4 e5
      go_wp2_with fail
      (with_reducible refine (implSameMulti_is B B' nb nb' cb cb' dm dm' _ HV2.out _ (hm.ext HX1.out) (hm'.ext HX1.out)).mono ?_)
      rintro e w2 ⟨rfl, hx⟩
      have HX2 : Hid (Ext w w2) := HX1.out.trans hx
      clear hx N1 N2
      go_wp2
      go_ret
      exact ⟨rfl, HX2.out⟩
    · rw [Bool.true_and]
      have HV2 := Lib.hid hv2
      clear hv2
      cases hv3 : decide (ds = ds')
      · have HV3 := Lib.hid hv3
        rw [Bool.false_and]
        clear hv3
        go_enter Tryz.func15, Tryz.ntmps15
        go_wp2_with fail
        (with_reducible refine (sameNumbersE_is A A' na na' ca ca' dp dp' _ HV1.out _ (hp.ext HX0.out) (hp'.ext HX0.out)).mono ?_)
        rintro e w1 ⟨rfl, hx⟩
        have HX1 : Hid (Ext w w1) := HX0.out.trans hx
        have M1 := Lib.hid (N1.out.ext hx)
        have M2 := Lib.hid (N2.out.ext hx)
        clear N1 N2 hx
        have N1 := M1
        have N2 := M2
        clear M1 M2
        have HZ := N1
        obtain ⟨z0, c0, c1, c2, c3, c4, c5⟩ := HZ.out
        have HY := N2
        obtain ⟨y0, e0, e1, e2, e3, e4, e5⟩ := HY.out
        clear HZ HY
        dsimp only at c0 c1 c2 c3 c4 c5 e0 e1 e2 e3 e4 e5
        go_wp2_with fail
        (with_reducible refine (implSameMulti_is B B' nb nb' cb cb' dm dm' _ HV2.out _ (hm.ext HX1.out) (hm'.ext HX1.out)).mono ?_)
        rintro e w2 ⟨rfl, hx⟩
        have HX2 : Hid (Ext w w2) := HX1.out.trans hx
        have M1 := Lib.hid (N1.out.ext hx)
        have M2 := Lib.hid (N2.out.ext hx)
        clear N1 N2 hx
        have N1 := M1
        have N2 := M2
        clear M1 M2
        have HZ := N1
        obtain ⟨z0, c0, c1, c2, c3, c4, c5⟩ := HZ.out
        have HY := N2
        obtain ⟨y0, e0, e1, e2, e3, e4, e5⟩ := HY.out
        clear HZ HY
        dsimp only at c0 c1 c2 c3 c4 c5 e0 e1 e2 e3 e4 e5
        go_wp2_with fail
        (with_reducible refine (implSameSyncE_is S S' ns ns' cs cs' ds ds' _ HV3.out _ (hs.ext HX2.out) (hs'.ext HX2.out)).mono ?_)
        rintro e w3 ⟨rfl, hx⟩
        have HX3 : Hid (Ext w w3) := HX2.out.trans hx
        clear hx N1 N2
        go_wp2
        go_ret
        exact ⟨rfl, HX3.out⟩
      · rw [Bool.true_and]
        have HV3 := Lib.hid hv3
        clear hv3
        obtain ⟨v4, hv4⟩ : ∃ v, (decide (da = da') && decide (db = db')) = v := ⟨_, rfl⟩
        have HV4 := Lib.hid hv4
        rw [hv4]
        clear hv4
        go_enter Tryz.func15, Tryz.ntmps15
        go_wp2_with fail
        (with_reducible refine (sameNumbersE_is A A' na na' ca ca' dp dp' _ HV1.out _ (hp.ext HX0.out) (hp'.ext HX0.out)).mono ?_)
        rintro e w1 ⟨rfl, hx⟩
        have HX1 : Hid (Ext w w1) := HX0.out.trans hx
        have M1 := Lib.hid (N1.out.ext hx)
        have M2 := Lib.hid (N2.out.ext hx)
        clear N1 N2 hx
        have N1 := M1
        have N2 := M2
        clear M1 M2
        have HZ := N1
        obtain ⟨z0, c0, c1, c2, c3, c4, c5⟩ := HZ.out
        have HY := N2
        obtain ⟨y0, e0, e1, e2, e3, e4, e5⟩ := HY.out
        clear HZ HY
        dsimp only at c0 c1 c2 c3 c4 c5 e0 e1 e2 e3 e4 e5
        go_wp2_with fail
        (with_reducible refine (implSameMulti_is B B' nb nb' cb cb' dm dm' _ HV2.out _ (hm.ext HX1.out) (hm'.ext HX1.out)).mono ?_)
        rintro e w2 ⟨rfl, hx⟩
        have HX2 : Hid (Ext w w2) := HX1.out.trans hx
        have M1 := Lib.hid (N1.out.ext hx)
        have M2 := Lib.hid (N2.out.ext hx)
        clear N1 N2 hx
        have N1 := M1
        have N2 := M2
        clear M1 M2
        have HZ := N1
        obtain ⟨z0, c0, c1, c2, c3, c4, c5⟩ := HZ.out
        have HY := N2
        obtain ⟨y0, e0, e1, e2, e3, e4, e5⟩ := HY.out
        clear HZ HY
        dsimp only at c0 c1 c2 c3 c4 c5 e0 e1 e2 e3 e4 e5
        go_wp2_with fail
        (with_reducible refine (implSameSyncE_is S S' ns ns' cs cs' ds ds' _ HV3.out _ (hs.ext HX2.out) (hs'.ext HX2.out)).mono ?_)
        rintro e w3 ⟨rfl, hx⟩
        have HX3 : Hid (Ext w w3) := HX2.out.trans hx
        have M1 := Lib.hid (N1.out.ext hx)
        have M2 := Lib.hid (N2.out.ext hx)
        clear N1 N2 hx
        have N1 := M1
        have N2 := M2
        clear M1 M2
        have HZ := N1
        obtain ⟨z0, c0, c1, c2, c3, c4, c5⟩ := HZ.out
        have HY := N2
        obtain ⟨y0, e0, e1, e2, e3, e4, e5⟩ := HY.out
        clear HZ HY
        dsimp only at c0 c1 c2 c3 c4 c5 e0 e1 e2 e3 e4 e5
        go_wp2_with fail
        (with_reducible refine (implSamePassing_is P Q P' Q' np cp nq cq np' cp' nq' cq' da db da' db' _ HV4.out _ (ha.ext HX3.out) (hb.ext HX3.out) (ha'.ext HX3.out) (hb'.ext HX3.out)).mono ?_)
        rintro e w4 ⟨rfl, hx⟩
        have HX4 : Hid (Ext w w4) := HX3.out.trans hx
        clear hx N1 N2
        go_wp2
        go_ret
        exact ⟨rfl, HX4.out⟩
end Go.Proofs.YtbihbhdaenhdoaaGreat

namespace Go.Proofs.YtbihbhdaenhdoaaGreat
set_option linter.unusedVariables false
set_option linter.unusedSimpArgs false
open Go.ChangeShapes Go.WideShapes Go.ChangeAt Go.RowKit Go.Joins Go.Deep

theorem vsyn_tv {ts : List (Int × Bool)} (h : vsyn ts = true) : ∀ i, i < ts.length → 0 ≤ tv ts i ∧ tv ts i ≤ 14 := fun i hi => by
  unfold vsyn slis alls at h
  rw [Bool.and_eq_true, Bool.and_eq_true, decide_eq_true_iff] at h
  have := h.1.1 i hi
  unfold sok at this
  rw [Bool.and_eq_true, Bool.and_eq_true, btw_iff] at this
  omega
theorem smi_bd {f : Nat → Int} {M : Int} (hM : 0 ≤ M) : ∀ {k : Nat}, (∀ i, i < k → 0 ≤ f i ∧ f i ≤ M) → 0 ≤ smi f k ∧ smi f k ≤ M * k
  | 0, _ => by simp [smi]
  | k + 1, h => by
    have h1 := smi_bd (k := k) hM (fun i hi => h i (by omega))
    have h2 := h k (by omega)
    have h3 : M * ((k + 1 : Nat) : Int) = M * k + M := by rw [show ((k + 1 : Nat) : Int) = (k : Int) + 1 by omega, Int.mul_add, Int.mul_one]
    simp only [smi]
    omega
theorem div_wrap {a b : Int} (h0 : 0 ≤ a) (h1 : a ≤ 1000000) (hb : 0 < b) : RowKit.wrap64 (a / b) = a / b := by
  have h2 := Int.ediv_nonneg h0 (Int.le_of_lt hb)
  have h3 := Int.ediv_le_self b h0
  exact IntWalk.wrap64_in _ (by omega)
set_option maxHeartbeats 2000000 in
theorem specSyncProps_yes (A : Option Addr) (n c : Nat) (ts : List (Int × Bool)) (v : Int) (w : World) (hI : Syn w A n ts) (hv : Hid (vsyn ts = true)) (hV : Hid (smi (tv ts) ts.length / (ts.length : Int) = v)) :
    Calls Tryz.prog 39 #[.slice A n c] w fun e w' => e = .returned (.tuple #[.int .i64 v, .int .i64 0]) ∧ Ext w w' := by
  have hl := hI.len
  have hn := vsyn_len hv.out
  have hn1 : 1 ≤ n ∧ n ≤ 6 := by omega
  have HB : Hid (∀ i, i < 2 * n → 0 ≤ tv ts i ∧ tv ts i ≤ 14) := fun i hi => vsyn_tv hv.out i (by omega)
  rw [hl] at hV
  clear hl hn
  go_enter Tryz.func39, Tryz.ntmps39
  go_wp2_with fail
  (with_reducible refine (l05Ok_is A n c ts _ hv.out _ hI).mono ?_)
  rintro e w1 ⟨rfl, hx1⟩
  have hI1 := hI.ext hx1
  have HX1 := Lib.hid hx1
  clear hx1
  go_wp2_with fail
  go_loopw [4, 5] (fun s i wr => ∃ k : Nat, k ≤ n ∧ i = .int .i64 k ∧ s = .int .i64 (smi (tv ts) (2 * k)) ∧ Ext w1 wr) (fun _ i _ => n - (intOf i).toNat)
  case atStart => exact ⟨0, by omega, rfl, rfl, Ext.refl _⟩
  case round =>
    obtain ⟨k, hk, rfl, rfl, hx⟩ := hrel
    have hs := smi_bd (f := tv ts) (M := 14) (by omega) (k := 2 * k) (fun i hi => HB.out i (by omega))
    by_cases hlt : k < n
    · obtain ⟨b, off, hA, hb, hcell⟩ := (hI1.ext hx).at_ (by omega)
      subst hA
      obtain ⟨c1, c3, c2, c4⟩ := hcell k hlt
      have i1 : (k : Int) < n := by omega
      have hb1 := HB.out (2 * k) (by omega)
      have hb2 := HB.out (2 * k + 1) (by omega)
      have HS : Hid (smi (tv ts) (2 * (k + 1)) = smi (tv ts) (2 * k) + (tv ts (2 * k) + tv ts (2 * k + 1))) := by
        show _ = _
        rw [show 2 * (k + 1) = 2 * k + 1 + 1 by omega]
        simp only [smi]
        omega
      clear hcell
      generalize smi (tv ts) (2 * k) = z at *
      generalize tv ts (2 * k) = x at *
      generalize tv ts (2 * k + 1) = y at *
      have e1 : IntKind.i64.wrap (x + y) = x + y := IntWalk.i64_in _ (by omega)
      have e2 : IntKind.i64.wrap (z + (x + y)) = z + (x + y) := IntWalk.i64_in _ (by omega)
      go_wp2_with fail
      go_quiet (fail)
      go_wp2
      go_roundw
      case rel => exact ⟨k + 1, by omega, by go_num, by rw [HS.out], Ext.trans hx (by with_reducible (repeat (first | exact Ext.refl _ | apply Ext.drewN | apply Ext.drew | apply Ext.alloc | (refine Ext.set ?_ (by first | (simp; done) | (simp; omega) | omega) _) | (refine Ext.trans ?_ (by assumption)))))⟩
      case measure => simp [intOf]; omega
    · obtain rfl : k = n := by omega
      have HX : Hid (Ext w wr) := HX1.out.trans hx
      have hk0 : (0 : Int) < 2 * k := by omega
      have e3 : IntKind.i64.wrap (2 * (k : Int)) = 2 * k := IntWalk.i64_in _ (by omega)
      have hd : (smi (tv ts) (2 * k)).tdiv (2 * k) = smi (tv ts) (2 * k) / (2 * k) := Int.tdiv_eq_ediv_of_nonneg hs.1
      have HQ : Hid (RowKit.wrap64 (smi (tv ts) (2 * k) / (2 * (k : Int))) = v) := by
        show _ = _
        rw [div_wrap hs.1 (by omega) hk0, ← hV.out]
        rfl
      go_wp2
      rw [HQ.out]
      exact bodyPost_ret (v := .tuple #[.int .i64 v, .int .i64 0]) (by simp [results, Tryz.results39, go_sem, *]) rfl ⟨rfl, HX.out⟩
set_option maxHeartbeats 2000000 in
theorem implSyncProps_yes (A : Option Addr) (n c : Nat) (ts : List (Int × Bool)) (v : Int) (w : World) (hI : Syn w A n ts) (hv : Hid (vsyn ts = true)) (hV : Hid (smi (tv ts) ts.length / (ts.length : Int) = v)) :
    Calls Tryz.prog 35 #[.slice A n c] w fun e w' => e = .returned (.tuple #[.int .i64 v, .int .i64 0]) ∧ Ext w w' := by
  have hl := hI.len
  have hn := vsyn_len hv.out
  have hn1 : 1 ≤ n ∧ n ≤ 6 := by omega
  have HB : Hid (∀ i, i < 2 * n → 0 ≤ tv ts i ∧ tv ts i ≤ 14) := fun i hi => vsyn_tv hv.out i (by omega)
  rw [hl] at hV
  clear hl hn
  go_enter Tryz.func35, Tryz.ntmps35
  go_wp2_with fail
  (with_reducible refine (ValidSync_iz A n c ts _ hv.out _ hI).mono ?_)
  rintro e w1 ⟨rfl, hx1⟩
  have hI1 := hI.ext hx1
  have HX1 := Lib.hid hx1
  clear hx1
  go_wp2_with fail
  go_loopw [4, 12] (fun s i wr => ∃ k : Nat, k ≤ n ∧ i = .int .i64 k ∧ s = .int .i64 (smi (tv ts) (2 * k)) ∧ Ext w1 wr) (fun _ i _ => n - (intOf i).toNat)
  case atStart => exact ⟨0, by omega, rfl, rfl, Ext.refl _⟩
  case round =>
    obtain ⟨k, hk, rfl, rfl, hx⟩ := hrel
    have hs := smi_bd (f := tv ts) (M := 14) (by omega) (k := 2 * k) (fun i hi => HB.out i (by omega))
    by_cases hlt : k < n
    · obtain ⟨b, off, hA, hb, hcell⟩ := (hI1.ext hx).at_ (by omega)
      subst hA
      obtain ⟨c1, c3, c2, c4⟩ := hcell k hlt
      have i1 : (k : Int) < n := by omega
      have hb1 := HB.out (2 * k) (by omega)
      have hb2 := HB.out (2 * k + 1) (by omega)
      have HS : Hid (smi (tv ts) (2 * (k + 1)) = smi (tv ts) (2 * k) + (tv ts (2 * k) + tv ts (2 * k + 1))) := by
        show _ = _
        rw [show 2 * (k + 1) = 2 * k + 1 + 1 by omega]
        simp only [smi]
        omega
      clear hcell
      generalize smi (tv ts) (2 * k) = z at *
      generalize tv ts (2 * k) = x at *
      generalize tv ts (2 * k + 1) = y at *
      have e1 : IntKind.i64.wrap (x + y) = x + y := IntWalk.i64_in _ (by omega)
      have e2 : IntKind.i64.wrap (z + (x + y)) = z + (x + y) := IntWalk.i64_in _ (by omega)
      go_wp2
      go_roundw
      case rel => exact ⟨k + 1, by omega, by go_num, by rw [HS.out], Ext.trans hx (by with_reducible (repeat (first | exact Ext.refl _ | apply Ext.drewN | apply Ext.drew | apply Ext.alloc | (refine Ext.set ?_ (by first | (simp; done) | (simp; omega) | omega) _) | (refine Ext.trans ?_ (by assumption)))))⟩
      case measure => simp [intOf]; omega
    · obtain rfl : k = n := by omega
      have HX : Hid (Ext w wr) := HX1.out.trans hx
      have hk0 : (0 : Int) < 2 * k := by omega
      have e3 : IntKind.i64.wrap (2 * (k : Int)) = 2 * k := IntWalk.i64_in _ (by omega)
      have hd : (smi (tv ts) (2 * k)).tdiv (2 * k) = smi (tv ts) (2 * k) / (2 * k) := Int.tdiv_eq_ediv_of_nonneg hs.1
      have HQ : Hid (RowKit.wrap64 (smi (tv ts) (2 * k) / (2 * (k : Int))) = v) := by
        show _ = _
        rw [div_wrap hs.1 (by omega) hk0, ← hV.out]
        rfl
      go_wp2
      rw [HQ.out]
      exact bodyPost_ret (v := .tuple #[.int .i64 v, .int .i64 0]) (by simp [results, Tryz.results35, go_sem, *]) rfl ⟨rfl, HX.out⟩
theorem vmul_rows {L : List (List Int)} (h : vmul L = true) : 1 ≤ L.length ∧ L.length ≤ 12 ∧ ∀ i, i < L.length → (1 ≤ (ll L i).length ∧ (ll L i).length ≤ 4) ∧ ∀ k, k < (ll L i).length → 0 ≤ (ll L i)[k]?.getD 0 ∧ (ll L i)[k]?.getD 0 ≤ 15 := by
  have hs : stks L = true := by unfold vmul at h; rw [Bool.and_eq_true] at h; exact h.1
  obtain ⟨h1, h2, h3⟩ := stks_iff hs
  exact ⟨h1, h2, fun i hi => ⟨⟨(h3 i hi).1, (h3 i hi).2.1⟩, (h3 i hi).2.2.1⟩⟩
/-- The sum of the first k rows. -/
def rsm (L : List (List Int)) (k : Nat) : Int := smi (fun i => acc fSum (ll L i) (ll L i).length) k
theorem rsm_bd {L : List (List Int)} (h : vmul L = true) {k : Nat} (hk : k ≤ L.length) : 0 ≤ rsm L k ∧ rsm L k ≤ 60 * k :=
  smi_bd (M := 60) (by omega) (fun i hi => by
    have h3 := (vmul_rows h).2.2 i (by omega)
    have := acc_sum_bd (xs := ll L i) (k := (ll L i).length) h3.2
    omega)
set_option maxHeartbeats 2000000 in
theorem l04Sum_any (g o : Nat) (A : Option Addr) (n c : Nat) (L : List (List Int)) (w : World) (hB : MBox w g o A n c) (hI : Lists w A n L) (hv : Hid (vmul L = true)) :
    Calls Tryz.prog 81 #[.pointer (some ⟨g, o, none⟩)] w fun e w' => e = .returned (.int .i64 (rsm L n)) ∧ w = w' := by
  have hl := hI.len
  have hg := hB.lt
  have c0 := hB.c0
  have hn12 := (vmul_rows hv.out).2.1
  have HB : Hid (∀ k, k ≤ n → 0 ≤ rsm L k ∧ rsm L k ≤ 60 * k) := fun k hk => rsm_bd hv.out (by omega)
  have HR : Hid (∀ i, i < n → (ll L i).length ≤ 4 ∧ ∀ k, k < (ll L i).length → 0 ≤ (ll L i)[k]?.getD 0 ∧ (ll L i)[k]?.getD 0 ≤ 15) := fun i hi => by
    have := (vmul_rows hv.out).2.2 i (by omega)
    exact ⟨this.1.2, this.2⟩
  rw [hl] at hn12
  clear hl hB
  go_enter Tryz.func81, Tryz.ntmps81
  go_wp2
  go_loopw [3, 4, 5] (fun s i _ wr => ∃ k : Nat, k ≤ n ∧ i = .int .i64 k ∧ s = .int .i64 (rsm L k) ∧ w = wr) (fun _ i _ _ => n - (intOf i).toNat)
  case atStart => exact ⟨0, by omega, rfl, rfl, rfl⟩
  case round =>
    obtain ⟨k, hk, rfl, rfl, rfl⟩ := hrel
    by_cases hlt : k < n
    · obtain ⟨b, off, hA, hb, hcell⟩ := hI.at_ (by omega)
      subst hA
      obtain ⟨A1, n1, m1, d1, hi1⟩ := hcell k hlt
      have hl1 := hi1.len
      have i1 : (k : Int) < n := by omega
      have hbk := HB.out k (by omega)
      have hrk := HR.out k hlt
      have HRK := Lib.hid hrk.2
      have hrn := hrk.1
      clear hcell hrk
      rw [hl1] at hrn
      have HS : Hid (rsm L (k + 1) = rsm L k + acc fSum (ll L k) n1) := by show _ = _; rw [← hl1]; rfl
      have HACC : Hid (∀ j, j ≤ n1 → 0 ≤ acc fSum (ll L k) j ∧ acc fSum (ll L k) j ≤ 15 * j) := fun j hj => acc_sum_bd (fun i hi => HRK.out i (by omega))
      generalize rsm L k = z at *
      go_wp2
      go_loopw [3, 5] (fun s i wr => ∃ j : Nat, j ≤ n1 ∧ i = .int .i64 j ∧ s = .int .i64 (z + acc fSum (ll L k) j) ∧ w = wr) (fun _ i _ => n1 - (intOf i).toNat)
      case atStart => exact ⟨0, by omega, rfl, by simp [acc], by first | rfl | trivial⟩
      case round =>
        obtain ⟨j, hj, rfl, rfl, hww⟩ := hrel
        (try subst hww)
        by_cases hjn : j < n1
        · obtain ⟨b2, off2, hA2, hb2, hcell2⟩ := hi1.at_ (by omega)
          subst hA2
          have c2 := hcell2 j hjn
          have i2 : (j : Int) < n1 := by omega
          have h1 := HACC.out j (by omega)
          have h2 := HRK.out j (by omega)
          have HS2 : Hid (acc fSum (ll L k) (j + 1) = acc fSum (ll L k) j + (ll L k)[j]?.getD 0) := rfl
          generalize acc fSum (ll L k) j = y at *
          generalize (ll L k)[j]?.getD 0 = x at *
          have e2 : IntKind.i64.wrap (z + y + x) = z + y + x := IntWalk.i64_in _ (by omega)
          clear hcell2
          go_wp2
          go_roundw
          case rel => exact ⟨j + 1, by omega, by go_num, by rw [HS2.out, Int.add_assoc], by first | rfl | trivial⟩
          case measure => simp [intOf]; omega
        · obtain rfl : j = n1 := by omega
          go_wp2
          go_roundw
          case rel => exact ⟨k + 1, by omega, by go_num, by rw [HS.out], by first | rfl | trivial⟩
          case measure => simp [intOf]; omega
    · obtain rfl : k = n := by omega
      go_wp2
      go_ret
      exact ⟨rfl, rfl⟩
theorem l04Sum_is (g o : Nat) (A : Option Addr) (n c : Nat) (L : List (List Int)) (v : Int) (w : World) (hB : MBox w g o A n c) (hI : Lists w A n L) (hv : Hid (vmul L = true)) (hV : Hid (rsm L n = v)) :
    Calls Tryz.prog 81 #[.pointer (some ⟨g, o, none⟩)] w fun e w' => e = .returned (.int .i64 v) ∧ w = w' := by
  rw [← hV.out]
  exact l04Sum_any g o A n c L w hB hI hv
set_option maxHeartbeats 2000000 in
theorem specMultiProps_yes (A : Option Addr) (n c : Nat) (L : List (List Int)) (v : Int) (w : World) (hI : Lists w A n L) (hv : Hid (vmul L = true)) (hV : Hid (smm L / (L.length : Int) = v)) :
    Calls Tryz.prog 38 #[.agg #[.slice A n c]] w fun e w' => e = .returned (.tuple #[.int .i64 v, .int .i64 0]) ∧ Ext w w' := by
  have hl := hI.len
  have hb := rsm_bd hv.out (k := n) (by omega)
  have hn := (vmul_rows hv.out)
  have hn1 : 1 ≤ n ∧ n ≤ 12 := by omega
  obtain ⟨z, hz⟩ : ∃ z, rsm L n = z := ⟨_, rfl⟩
  have HZ := Lib.hid hz
  rw [hz] at hb
  have HB : Hid (MBox (w.alloc (.cells #[.slice A n c] 27)) w.heap.size 0 A n c) := ⟨by simp, by simp⟩
  have hk0 : (0 : Int) < n := by omega
  have hn0 : ¬ n = 0 := by omega
  have HQ : Hid (RowKit.wrap64 (z / (n : Int)) = v) := by
    show _ = _
    rw [div_wrap hb.1 (by omega) hk0, ← hV.out, ← hz, hl]
    show rsm L n / _ = smm L / _
    unfold smm rsm
    rw [hl]
  have HQ2 : Hid (IntKind.i64.wrap (z / (n : Int)) = v) := by
    show _ = _
    have h := HQ.out
    rw [div_wrap hb.1 (by omega) hk0] at h
    rw [← h]
    have h2 := Int.ediv_nonneg hb.1 (Int.le_of_lt hk0)
    have h3 := Int.ediv_le_self (n : Int) hb.1
    exact IntWalk.i64_in _ (by omega)
  have hd : z.tdiv n = z / n := Int.tdiv_eq_ediv_of_nonneg hb.1
  clear hl hn hz hV
  go_enter Tryz.func38, Tryz.ntmps38
  go_wp2_with fail
  (with_reducible refine (l04Ok_is w.heap.size 0 A n c L _ hv.out _ HB.out (hI.ext (by with_reducible (repeat (first | exact Ext.refl _ | apply Ext.drewN | apply Ext.drew | apply Ext.alloc | (refine Ext.set ?_ (by first | (simp; done) | (simp; omega) | omega) _) | (refine Ext.trans ?_ (by assumption))))))).mono ?_)
  rintro e w1 ⟨rfl, hx1⟩
  have HB1 : Hid (MBox w1 w.heap.size 0 A n c) := HB.out.ext hx1
  have hE : Ext w w1 := Ext.trans (by with_reducible (repeat (first | exact Ext.refl _ | apply Ext.drewN | apply Ext.drew | apply Ext.alloc | (refine Ext.set ?_ (by first | (simp; done) | (simp; omega) | omega) _) | (refine Ext.trans ?_ (by assumption))))) hx1
  have c0 := HB1.out.c0
  have q0 := HB1.out.lt
  have hI1 := hI.ext hE
  have HE := Lib.hid hE
  clear hx1 HB hE
  go_wp2_with fail
  go_region_held3 (fun wz => wz.cell? ⟨w.heap.size, 0, none⟩ = some (.slice A n c)) (go_keep)
    (first | (go_at_call 81; (with_reducible refine (l04Sum_is w.heap.size 0 A n c L _ _ (HB1.out.ext (by with_reducible (repeat (first | exact Ext.refl _ | apply Ext.drewN | apply Ext.drew | apply Ext.alloc | (refine Ext.set ?_ (by first | (simp; done) | (simp; omega) | omega) _) | (refine Ext.trans ?_ (by assumption)))))) (hI1.ext (by with_reducible (repeat (first | exact Ext.refl _ | apply Ext.drewN | apply Ext.drew | apply Ext.alloc | (refine Ext.set ?_ (by first | (simp; done) | (simp; omega) | omega) _) | (refine Ext.trans ?_ (by assumption)))))) hv HZ).mono ?_); rintro e w' ⟨rfl, rfl⟩))
  all_goals
    go_wp2
    rw [HQ2.out]
    exact bodyPost_ret (v := .tuple #[.int .i64 v, .int .i64 0]) (by simp [results, Tryz.results38, go_sem, *]) rfl ⟨rfl, HE.out.trans (by with_reducible (repeat (first | exact Ext.refl _ | apply Ext.drewN | apply Ext.drew | apply Ext.alloc | (refine Ext.set ?_ (by first | (simp; done) | (simp; omega) | omega) _) | (refine Ext.trans ?_ (by assumption)))))⟩
set_option maxHeartbeats 2000000 in
theorem implMultiProps_yes (A : Option Addr) (n c : Nat) (L : List (List Int)) (v : Int) (w : World) (hI : Lists w A n L) (hv : Hid (vmul L = true)) (hV : Hid (smm L / (L.length : Int) = v)) :
    Calls Tryz.prog 34 #[.agg #[.slice A n c]] w fun e w' => e = .returned (.tuple #[.int .i64 v, .int .i64 0]) ∧ Ext w w' := by
  have hl := hI.len
  have hb := rsm_bd hv.out (k := n) (by omega)
  have hn := (vmul_rows hv.out)
  have hn1 : 1 ≤ n ∧ n ≤ 12 := by omega
  have HB : Hid (MBox (w.alloc (.cells #[.slice A n c] 27)) w.heap.size 0 A n c) := ⟨by simp, by simp⟩
  have HB2 : Hid (∀ k, k ≤ n → 0 ≤ rsm L k ∧ rsm L k ≤ 60 * k) := fun k hk => rsm_bd hv.out (by omega)
  have HR : Hid (∀ i, i < n → (ll L i).length ≤ 4 ∧ ∀ k, k < (ll L i).length → 0 ≤ (ll L i)[k]?.getD 0 ∧ (ll L i)[k]?.getD 0 ≤ 15) := fun i hi => by
    have := (vmul_rows hv.out).2.2 i (by omega)
    exact ⟨this.1.2, this.2⟩
  have hk0 : (0 : Int) < n := by omega
  have hn0 : ¬ n = 0 := by omega
  have HQ : Hid (RowKit.wrap64 (rsm L n / (n : Int)) = v) := by
    show _ = _
    rw [div_wrap hb.1 (by omega) hk0, ← hV.out, hl]
    show rsm L n / _ = smm L / _
    unfold smm rsm
    rw [hl]
  have hd : (rsm L n).tdiv n = rsm L n / n := Int.tdiv_eq_ediv_of_nonneg hb.1
  have HD := Lib.hid hd
  clear hl hn hV hb hd
  go_enter Tryz.func34, Tryz.ntmps34
  go_wp2_with fail
  (with_reducible refine (ValidMulti_is A n c L _ hv.out _ (hI.ext (by with_reducible (repeat (first | exact Ext.refl _ | apply Ext.drewN | apply Ext.drew | apply Ext.alloc | (refine Ext.set ?_ (by first | (simp; done) | (simp; omega) | omega) _) | (refine Ext.trans ?_ (by assumption))))))).mono ?_)
  rintro e w1 ⟨rfl, hx1⟩
  have HB1 : Hid (MBox w1 w.heap.size 0 A n c) := HB.out.ext hx1
  have hE : Ext w w1 := Ext.trans (by with_reducible (repeat (first | exact Ext.refl _ | apply Ext.drewN | apply Ext.drew | apply Ext.alloc | (refine Ext.set ?_ (by first | (simp; done) | (simp; omega) | omega) _) | (refine Ext.trans ?_ (by assumption))))) hx1
  have c0 := HB1.out.c0
  have q0 := HB1.out.lt
  have hI1 := hI.ext hE
  have HE := Lib.hid hE
  clear hx1 HB hE
  go_wp2
  go_loopw [4, 6, 8, 15] (fun s _ _ i wr => ∃ k : Nat, k ≤ n ∧ i = .int .i64 k ∧ s = .int .i64 (rsm L k) ∧ w1 = wr) (fun _ _ _ i _ => n - (intOf i).toNat)
  case atStart => exact ⟨0, by omega, rfl, rfl, rfl⟩
  case round =>
    obtain ⟨k, hk, rfl, rfl, rfl⟩ := hrel
    by_cases hlt : k < n
    · obtain ⟨b, off, hA, hb, hcell⟩ := hI1.at_ (by omega)
      subst hA
      obtain ⟨A1, n1, m1, d1, hi1⟩ := hcell k hlt
      have hl1 := hi1.len
      have i1 : (k : Int) < n := by omega
      have hbk := HB2.out k (by omega)
      have hrk := HR.out k hlt
      have HRK := Lib.hid hrk.2
      have hrn := hrk.1
      clear hcell hrk
      rw [hl1] at hrn
      have HS : Hid (rsm L (k + 1) = rsm L k + acc fSum (ll L k) n1) := by show _ = _; rw [← hl1]; rfl
      have HACC : Hid (∀ j, j ≤ n1 → 0 ≤ acc fSum (ll L k) j ∧ acc fSum (ll L k) j ≤ 15 * j) := fun j hj => acc_sum_bd (fun i hi => HRK.out i (by omega))
      generalize rsm L k = z at *
      go_wp2
      go_loopw [4, 8, 21] (fun s _ i wr => ∃ j : Nat, j ≤ n1 ∧ i = .int .i64 j ∧ s = .int .i64 (z + acc fSum (ll L k) j) ∧ w1 = wr) (fun _ _ i _ => n1 - (intOf i).toNat)
      case atStart => exact ⟨0, by omega, rfl, by simp [acc], by first | rfl | trivial⟩
      case round =>
        obtain ⟨j, hj, rfl, rfl, hww⟩ := hrel
        (try subst hww)
        by_cases hjn : j < n1
        · obtain ⟨b2, off2, hA2, hb2, hcell2⟩ := hi1.at_ (by omega)
          subst hA2
          have c2 := hcell2 j hjn
          have i2 : (j : Int) < n1 := by omega
          have h1 := HACC.out j (by omega)
          have h2 := HRK.out j (by omega)
          have HS2 : Hid (acc fSum (ll L k) (j + 1) = acc fSum (ll L k) j + (ll L k)[j]?.getD 0) := rfl
          generalize acc fSum (ll L k) j = y at *
          generalize (ll L k)[j]?.getD 0 = x at *
          have e2 : IntKind.i64.wrap (z + y + x) = z + y + x := IntWalk.i64_in _ (by omega)
          clear hcell2
          go_wp2
          go_roundw
          case rel => exact ⟨j + 1, by omega, by go_num, by rw [HS2.out, Int.add_assoc], by first | rfl | trivial⟩
          case measure => simp [intOf]; omega
        · obtain rfl : j = n1 := by omega
          go_wp2
          go_roundw
          case rel => exact ⟨k + 1, by omega, by go_num, by rw [HS.out], by first | rfl | trivial⟩
          case measure => simp [intOf]; omega
    · obtain rfl : k = n := by omega
      have hb := HB2.out k (by omega)
      have hd := HD.out
      generalize rsm L k = z at *
      go_wp2
      rw [HQ.out]
      exact bodyPost_ret (v := .tuple #[.int .i64 v, .int .i64 0]) (by simp [results, Tryz.results34, go_sem, *]) rfl ⟨rfl, HE.out⟩
set_option maxHeartbeats 2000000 in
theorem l06PropsN_yes (g o : Nat) (A B : Option Addr) (n c d : Nat) (ts us : List (Int × Bool)) (v : Int) (w : World) (hBx : PBoxO w g o A n c B n d) (hI : Thr w A n ts) (hJ : Thr w B n us) (hv : Hid (vpas ts us = true)) (hV : Hid (smi (fun i => tv ts i + tv us i) ts.length / (ts.length : Int) = v)) :
    Calls Tryz.prog 40 #[.pointer (some ⟨g, o, none⟩)] w fun e w' => e = .returned (.int .i64 v) ∧ Ext w w' := by
  obtain ⟨g1, g2, g3, g4, g5⟩ := vpas_parts hv.out
  rw [g3] at g5
  rw [hI.len] at g1 g2 g4 g5 hV
  have HB : Hid (∀ i, i < n → 0 ≤ tv ts i + tv us i ∧ tv ts i + tv us i ≤ 30) := fun i hi => by have := g4 i hi; have := g5 i hi; omega
  have HBT : Hid (∀ i, i < n → (0 ≤ tv ts i ∧ tv ts i ≤ 15) ∧ (0 ≤ tv us i ∧ tv us i ≤ 15)) := fun i hi => ⟨g4 i hi, g5 i hi⟩
  clear g3 g4 g5
  have hlt := hBx.lt
  have q0 := hBx.c0
  have q1 := hBx.c1
  go_enter Tryz.func40, Tryz.ntmps40
  go_wp2
  go_loopw [3, 4] (fun s i wr => ∃ k : Nat, k ≤ n ∧ i = .int .i64 k ∧ s = .int .i64 (smi (fun i => tv ts i + tv us i) k) ∧ Ext w wr) (fun _ i _ => n - (intOf i).toNat)
  case atStart => exact ⟨0, by omega, rfl, rfl, Ext.refl _⟩
  case round =>
    obtain ⟨k, hk, rfl, rfl, hx⟩ := hrel
    clear q0 q1
    have hBr := hBx.ext hx
    have q0 := hBr.c0
    have q1 := hBr.c1
    have ql := hBr.lt
    have hs := smi_bd (f := fun i => tv ts i + tv us i) (M := 30) (by omega) (k := k) (fun i hi => HB.out i (by omega))
    by_cases hlt : k < n
    · obtain ⟨b, off, hA, hb, hcell⟩ := (hI.ext hx).at_ (by omega)
      obtain ⟨b2, off2, hB, hb2, hcell2⟩ := (hJ.ext hx).at_ (by omega)
      subst hA hB
      obtain ⟨c1, c3⟩ := hcell k hlt
      obtain ⟨c2, c4⟩ := hcell2 k hlt
      have i1 : (k : Int) < n := by omega
      have hb1 := HBT.out k hlt
      have HS : Hid (smi (fun i => tv ts i + tv us i) (k + 1) = smi (fun i => tv ts i + tv us i) k + (tv ts k + tv us k)) := rfl
      clear hcell hcell2
      generalize smi (fun i => tv ts i + tv us i) k = z at *
      generalize tv ts k = x at *
      generalize tv us k = y at *
      have e1 : IntKind.i64.wrap (x + y) = x + y := IntWalk.i64_in _ (by omega)
      have e2 : IntKind.i64.wrap (z + (x + y)) = z + (x + y) := IntWalk.i64_in _ (by omega)
      go_wp2_with fail
      go_quiet (fail)
      go_wp2
      go_roundw
      case rel => exact ⟨k + 1, by omega, by go_num, by rw [HS.out], Ext.trans hx (by with_reducible (repeat (first | exact Ext.refl _ | apply Ext.drewN | apply Ext.drew | apply Ext.alloc | (refine Ext.set ?_ (by first | (simp; done) | (simp; omega) | omega) _) | (refine Ext.trans ?_ (by assumption)))))⟩
      case measure => simp [intOf]; omega
    · obtain rfl : k = n := by omega
      have HX : Hid (Ext w wr) := hx
      have hk0 : (0 : Int) < k := by omega
      have hd : (smi (fun i => tv ts i + tv us i) k).tdiv k = smi (fun i => tv ts i + tv us i) k / k := Int.tdiv_eq_ediv_of_nonneg hs.1
      have HQ : Hid (RowKit.wrap64 (smi (fun i => tv ts i + tv us i) k / (k : Int)) = v) := by
        show _ = _
        rw [div_wrap hs.1 (by omega) hk0, ← hV.out]
      generalize smi (fun i => tv ts i + tv us i) k = z at *
      go_wp2
      go_ret
      exact ⟨by rw [HQ.out]; rfl, HX.out⟩
set_option maxHeartbeats 2000000 in
theorem implPassingPropsN_yes (A B : Option Addr) (n c d : Nat) (ts us : List (Int × Bool)) (v : Int) (w : World) (hI : Thr w A n ts) (hJ : Thr w B n us) (hv : Hid (vpas ts us = true)) (hV : Hid (smi (fun i => tv ts i + tv us i) ts.length / (ts.length : Int) = v)) :
    Calls Tryz.prog 36 #[.agg #[.slice A n c, .slice B n d]] w fun e w' => e = .returned (.tuple #[.int .i64 v, .int .i64 0]) ∧ Ext w w' := by
  obtain ⟨g1, g2, g3, g4, g5⟩ := vpas_parts hv.out
  rw [g3] at g5
  rw [hI.len] at g1 g2 g4 g5 hV
  have HB : Hid (∀ i, i < n → 0 ≤ tv ts i + tv us i ∧ tv ts i + tv us i ≤ 30) := fun i hi => by have := g4 i hi; have := g5 i hi; omega
  have HBT : Hid (∀ i, i < n → (0 ≤ tv ts i ∧ tv ts i ≤ 15) ∧ (0 ≤ tv us i ∧ tv us i ≤ 15)) := fun i hi => ⟨g4 i hi, g5 i hi⟩
  clear g3 g4 g5
  have hbx := heap_alloc_new w (.cells #[.slice A n c, .slice B n d] 31)
  go_enter Tryz.func36, Tryz.ntmps36
  go_wp2_with fail
  (with_reducible refine (ValidPassing_iz A B n c n d ts us _ hv.out _ (hI.ext (by with_reducible (repeat (first | exact Ext.refl _ | apply Ext.drewN | apply Ext.drew | apply Ext.alloc | (refine Ext.set ?_ (by first | (simp; done) | (simp; omega) | omega) _) | (refine Ext.trans ?_ (by assumption)))))) (hJ.ext (by with_reducible (repeat (first | exact Ext.refl _ | apply Ext.drewN | apply Ext.drew | apply Ext.alloc | (refine Ext.set ?_ (by first | (simp; done) | (simp; omega) | omega) _) | (refine Ext.trans ?_ (by assumption))))))).mono ?_)
  rintro e w1 ⟨rfl, hx1⟩
  have hT := blkS_ext hbx hx1
  have hE1 : Ext w w1 := Ext.trans (by with_reducible (repeat (first | exact Ext.refl _ | apply Ext.drewN | apply Ext.drew | apply Ext.alloc | (refine Ext.set ?_ (by first | (simp; done) | (simp; omega) | omega) _) | (refine Ext.trans ?_ (by assumption))))) hx1
  have hI1 := hI.ext hE1
  have hJ1 := hJ.ext hE1
  clear hbx hx1
  obtain ⟨⟨q0, q1⟩, f0, f1⟩ := blkS2 hT
  go_wp2_with fail
  go_loopw [4, 12] (fun s i wr => ∃ k : Nat, k ≤ n ∧ i = .int .i64 k ∧ s = .int .i64 (smi (fun i => tv ts i + tv us i) k) ∧ Ext w1 wr) (fun _ i _ => n - (intOf i).toNat)
  case atStart => exact ⟨0, by omega, rfl, rfl, Ext.refl _⟩
  case round =>
    obtain ⟨k, hk, rfl, rfl, hx⟩ := hrel
    clear q0 q1 f0 f1
    have hTr := blkS_ext hT hx
    have hs := smi_bd (f := fun i => tv ts i + tv us i) (M := 30) (by omega) (k := k) (fun i hi => HB.out i (by omega))
    by_cases hlt : k < n
    · obtain ⟨b, off, hA, hb, hcell⟩ := (hI1.ext hx).at_ (by omega)
      obtain ⟨b2, off2, hB, hb2, hcell2⟩ := (hJ1.ext hx).at_ (by omega)
      subst hA hB
      obtain ⟨c1, c3⟩ := hcell k hlt
      obtain ⟨c2, c4⟩ := hcell2 k hlt
      have i1 : (k : Int) < n := by omega
      have hb1 := HBT.out k hlt
      have HS : Hid (smi (fun i => tv ts i + tv us i) (k + 1) = smi (fun i => tv ts i + tv us i) k + (tv ts k + tv us k)) := rfl
      clear hcell hcell2
      obtain ⟨⟨q0, q1⟩, f0, f1⟩ := blkS2 hTr
      generalize smi (fun i => tv ts i + tv us i) k = z at *
      generalize tv ts k = x at *
      generalize tv us k = y at *
      have e1 : IntKind.i64.wrap (x + y) = x + y := IntWalk.i64_in _ (by omega)
      have e2 : IntKind.i64.wrap (z + (x + y)) = z + (x + y) := IntWalk.i64_in _ (by omega)
      go_wp2_with fail
      go_quiet (fail)
      go_wp2
      go_roundw
      case rel => exact ⟨k + 1, by omega, by go_num, by rw [HS.out], Ext.trans hx (by with_reducible (repeat (first | exact Ext.refl _ | apply Ext.drewN | apply Ext.drew | apply Ext.alloc | (refine Ext.set ?_ (by first | (simp; done) | (simp; omega) | omega) _) | (refine Ext.trans ?_ (by assumption)))))⟩
      case measure => simp [intOf]; omega
    · obtain rfl : k = n := by omega
      obtain ⟨⟨q0, q1⟩, f0, f1⟩ := blkS2 hTr
      have HX : Hid (Ext w wr) := Ext.trans hE1 hx
      have hk0 : (0 : Int) < k := by omega
      have hd : (smi (fun i => tv ts i + tv us i) k).tdiv k = smi (fun i => tv ts i + tv us i) k / k := Int.tdiv_eq_ediv_of_nonneg hs.1
      have HQ : Hid (RowKit.wrap64 (smi (fun i => tv ts i + tv us i) k / (k : Int)) = v) := by
        show _ = _
        rw [div_wrap hs.1 (by omega) hk0, ← hV.out]
      generalize smi (fun i => tv ts i + tv us i) k = z at *
      go_wp2
      rw [HQ.out]
      exact bodyPost_ret (v := .tuple #[.int .i64 v, .int .i64 0]) (by simp [results, Tryz.results36, go_sem, *]) rfl ⟨rfl, HX.out⟩
theorem implPropsOfN_yes (A : Option Addr) (n c : Nat) (xs : List Int) (v : Int) (w : World) (hI : Ints w A n xs) (hv : Hid (vpat xs = true)) (hV : Hid (prp xs = v)) :
    Calls Tryz.prog 33 #[.slice A n c] w fun e w' => e = .returned (.tuple #[.int .i64 v, .int .i64 0]) ∧ Ext w w' := by
  go_enter Tryz.func33, Tryz.ntmps33
  go_wp2_with fail
  (with_reducible refine (ValidPattern_is A n c xs true hv.out _ hI).mono ?_)
  rintro e w1 ⟨rfl, hx1⟩
  go_wp2_with fail
  (with_reducible refine (propsOf_is A n c xs _ (hI.ext hx1) hv.out).mono ?_)
  rw [hV.out]
  rintro e w2 ⟨rfl, rfl⟩
  have HX := Lib.hid hx1
  clear hx1
  go_wp2
  exact bodyPost_ret (v := .tuple #[.int .i64 v, .int .i64 0]) (by simp [results, Tryz.results33, go_sem, *]) rfl ⟨rfl, HX.out⟩
theorem l02PropsN_yes (A : Option Addr) (n c : Nat) (xs : List Int) (v : Int) (w : World) (hI : Ints w A n xs) (hv : Hid (vpat xs = true)) (hV : Hid (prp xs = v)) :
    Calls Tryz.prog 37 #[.slice A n c] w fun e w' => e = .returned (.int .i64 v) ∧ w = w' := by
  rw [← hV.out]
  exact l02Props_any A n c xs w hI hv.out
end Go.Proofs.YtbihbhdaenhdoaaGreat

namespace Go.Proofs.YtbihbhdaenhdoaaGreat
set_option linter.unusedVariables false
set_option linter.unusedSimpArgs false
open Go.ChangeShapes Go.WideShapes Go.ChangeAt Go.RowKit Go.Joins Go.Deep

set_option maxHeartbeats 8000000 in
theorem specNotationProps_any (V : NV) (D : ND) (r s : Int) (w : World) (hI : NtR w V D) (hS : V.np ≤ 1048576 ∧ V.nq ≤ 1048576) (hr : Hid ((if vnt D = true then npr D else 0) = r)) (hs0 : Hid ((if vnt D = true then (0 : Int) else 1) = s)) :
    Calls Tryz.prog 10 #[V.val] w fun e w' => e = .returned (.tuple #[.int .i64 r, .int .i64 s]) ∧ Ext w w' := by
  have HN : Hid (NBox (w.alloc (.cells #[.int .i64 V.k, .slice V.A V.na V.ca, .slice V.B V.nb V.cb, .slice V.S V.ns V.cs, .slice V.P V.np V.cp, .slice V.Q V.nq V.cq] 33)) w.heap.size V) := NBox.new w V
  have hIk := hI
  obtain ⟨k, A, na, ca, B, nb, cb, S, ns, cs, P, np, cp, Q, nq, cq⟩ := V
  obtain ⟨kk, dp, dm, ds, da, db⟩ := D
  obtain ⟨hk, hp, hm, hs, ha, hb⟩ := hI
  unfold NV.val
  dsimp only at *
  subst hk
  have HS := Lib.hid hS
  clear hS
  have HI := Lib.hid hIk
  clear hIk
  cases hv : vnt ⟨k, dp, dm, ds, da, db⟩
  · rw [hv] at hr hs0
    have HV := Lib.hid hv
    clear hv
    obtain rfl : (0 : Int) = r := hr.out
    obtain rfl : (1 : Int) = s := hs0.out
    clear hr hs0
    go_enter Tryz.func10, Tryz.ntmps10
    go_wp2_with fail
    (with_reducible refine (l07Ok_is w.heap.size ⟨k, A, na, ca, B, nb, cb, S, ns, cs, P, np, cp, Q, nq, cq⟩ ⟨k, dp, dm, ds, da, db⟩ false HV.out _ HN.out (HI.out.ext (by with_reducible (repeat (first | exact Ext.refl _ | apply Ext.drewN | apply Ext.drew | apply Ext.alloc | (refine Ext.set ?_ (by first | (simp; done) | (simp; omega) | omega) _) | (refine Ext.trans ?_ (by assumption))))))).mono ?_)
    rintro e w1 ⟨rfl, hx1⟩
    have HE : Hid (Ext w w1) := Ext.trans (by with_reducible (repeat (first | exact Ext.refl _ | apply Ext.drewN | apply Ext.drew | apply Ext.alloc | (refine Ext.set ?_ (by first | (simp; done) | (simp; omega) | omega) _) | (refine Ext.trans ?_ (by assumption))))) hx1
    have HN1 : Hid (NBox w1 w.heap.size _) := HN.out.ext hx1
    clear hx1 HN
    obtain ⟨z0, c0, c1, c2, c3, c4, c5⟩ := HN1.out
    dsimp only at c0 c1 c2 c3 c4 c5
    go_wp2
    exact bodyPost_ret (v := .tuple #[.int .i64 0, .int .i64 1]) (by simp [results, Tryz.results10, go_sem, *]) rfl ⟨rfl, HE.out⟩
  · rw [hv, if_pos rfl] at hr
    rw [hv] at hs0
    obtain rfl : (0 : Int) = s := hs0.out
    clear hs0
    have hsp := vnt_split hv
    have hkd := vnt_kind hv
    have HV := Lib.hid hv
    clear hv
    dsimp only at hsp hkd
    have lp := hp.len
    have lm := hm.len
    have ls := hs.len
    have la := ha.len
    have lb := hb.len
    rcases hkd with ⟨hk, hvk⟩ | ⟨hk, hvk⟩ | ⟨hk, hvk⟩ | ⟨hk, hvk⟩
    · subst hk
      have HVK := Lib.hid hvk
      have HR : Hid (prp dp = r) := hr.out
      clear hr hsp hvk lp lm ls la lb
      go_enter Tryz.func10, Tryz.ntmps10
      go_wp2_with fail
      (with_reducible refine (l07Ok_is w.heap.size ⟨1, A, na, ca, B, nb, cb, S, ns, cs, P, np, cp, Q, nq, cq⟩ ⟨1, dp, dm, ds, da, db⟩ true HV.out _ HN.out (HI.out.ext (by with_reducible (repeat (first | exact Ext.refl _ | apply Ext.drewN | apply Ext.drew | apply Ext.alloc | (refine Ext.set ?_ (by first | (simp; done) | (simp; omega) | omega) _) | (refine Ext.trans ?_ (by assumption))))))).mono ?_)
      rintro e w1 ⟨rfl, hx1⟩
      have HE : Hid (Ext w w1) := Ext.trans (by with_reducible (repeat (first | exact Ext.refl _ | apply Ext.drewN | apply Ext.drew | apply Ext.alloc | (refine Ext.set ?_ (by first | (simp; done) | (simp; omega) | omega) _) | (refine Ext.trans ?_ (by assumption))))) hx1
      have HN1 : Hid (NBox w1 w.heap.size _) := HN.out.ext hx1
      clear hx1 HN
      obtain ⟨z0, c0, c1, c2, c3, c4, c5⟩ := HN1.out
      dsimp only at c0 c1 c2 c3 c4 c5
      go_wp2_with fail
      (with_reducible refine (l02PropsN_yes A na ca dp r _ (hp.ext HE.out) HVK HR).mono ?_)
      rintro e w2 ⟨rfl, hx2⟩
      subst hx2
      have HX := HE
      go_wp2
      exact bodyPost_ret (v := .tuple #[.int .i64 r, .int .i64 0]) (by simp [results, Tryz.results10, go_sem, *]) rfl ⟨rfl, HX.out⟩
    · subst hk
      have HVK := Lib.hid hvk
      have HR : Hid (smm dm / (dm.length : Int) = r) := hr.out
      clear hr hsp hvk lp lm ls la lb
      go_enter Tryz.func10, Tryz.ntmps10
      go_wp2_with fail
      (with_reducible refine (l07Ok_is w.heap.size ⟨2, A, na, ca, B, nb, cb, S, ns, cs, P, np, cp, Q, nq, cq⟩ ⟨2, dp, dm, ds, da, db⟩ true HV.out _ HN.out (HI.out.ext (by with_reducible (repeat (first | exact Ext.refl _ | apply Ext.drewN | apply Ext.drew | apply Ext.alloc | (refine Ext.set ?_ (by first | (simp; done) | (simp; omega) | omega) _) | (refine Ext.trans ?_ (by assumption))))))).mono ?_)
      rintro e w1 ⟨rfl, hx1⟩
      have HE : Hid (Ext w w1) := Ext.trans (by with_reducible (repeat (first | exact Ext.refl _ | apply Ext.drewN | apply Ext.drew | apply Ext.alloc | (refine Ext.set ?_ (by first | (simp; done) | (simp; omega) | omega) _) | (refine Ext.trans ?_ (by assumption))))) hx1
      have HN1 : Hid (NBox w1 w.heap.size _) := HN.out.ext hx1
      clear hx1 HN
      obtain ⟨z0, c0, c1, c2, c3, c4, c5⟩ := HN1.out
      dsimp only at c0 c1 c2 c3 c4 c5
      go_wp2_with fail
      (with_reducible refine (specMultiProps_yes B nb cb dm r _ (hm.ext HE.out) HVK HR).mono ?_)
      rintro e w2 ⟨rfl, hx2⟩
      have HX : Hid (Ext w w2) := HE.out.trans hx2
      clear hx2
      go_wp2
      exact bodyPost_ret (v := .tuple #[.int .i64 r, .int .i64 0]) (by simp [results, Tryz.results10, go_sem, *]) rfl ⟨rfl, HX.out⟩
    · subst hk
      have HVK := Lib.hid hvk
      have HR : Hid (smi (tv ds) ds.length / (ds.length : Int) = r) := hr.out
      clear hr hsp hvk lp lm ls la lb
      go_enter Tryz.func10, Tryz.ntmps10
      go_wp2_with fail
      (with_reducible refine (l07Ok_is w.heap.size ⟨3, A, na, ca, B, nb, cb, S, ns, cs, P, np, cp, Q, nq, cq⟩ ⟨3, dp, dm, ds, da, db⟩ true HV.out _ HN.out (HI.out.ext (by with_reducible (repeat (first | exact Ext.refl _ | apply Ext.drewN | apply Ext.drew | apply Ext.alloc | (refine Ext.set ?_ (by first | (simp; done) | (simp; omega) | omega) _) | (refine Ext.trans ?_ (by assumption))))))).mono ?_)
      rintro e w1 ⟨rfl, hx1⟩
      have HE : Hid (Ext w w1) := Ext.trans (by with_reducible (repeat (first | exact Ext.refl _ | apply Ext.drewN | apply Ext.drew | apply Ext.alloc | (refine Ext.set ?_ (by first | (simp; done) | (simp; omega) | omega) _) | (refine Ext.trans ?_ (by assumption))))) hx1
      have HN1 : Hid (NBox w1 w.heap.size _) := HN.out.ext hx1
      clear hx1 HN
      obtain ⟨z0, c0, c1, c2, c3, c4, c5⟩ := HN1.out
      dsimp only at c0 c1 c2 c3 c4 c5
      go_wp2_with fail
      (with_reducible refine (specSyncProps_yes S ns cs ds r _ (hs.ext HE.out) HVK HR).mono ?_)
      rintro e w2 ⟨rfl, hx2⟩
      have HX : Hid (Ext w w2) := HE.out.trans hx2
      clear hx2
      go_wp2
      exact bodyPost_ret (v := .tuple #[.int .i64 r, .int .i64 0]) (by simp [results, Tryz.results10, go_sem, *]) rfl ⟨rfl, HX.out⟩
    · subst hk
      have HVK := Lib.hid hvk
      have HR : Hid (smi (fun i => tv da i + tv db i) da.length / (da.length : Int) = r) := hr.out
      have hl4 := vpas_len hvk
      obtain rfl : nq = np := by omega
      clear hr hsp hvk lp lm ls la lb hl4
      go_enter Tryz.func10, Tryz.ntmps10
      go_wp2_with fail
      (with_reducible refine (l07Ok_is w.heap.size ⟨4, A, na, ca, B, nb, cb, S, ns, cs, P, nq, cp, Q, nq, cq⟩ ⟨4, dp, dm, ds, da, db⟩ true HV.out _ HN.out (HI.out.ext (by with_reducible (repeat (first | exact Ext.refl _ | apply Ext.drewN | apply Ext.drew | apply Ext.alloc | (refine Ext.set ?_ (by first | (simp; done) | (simp; omega) | omega) _) | (refine Ext.trans ?_ (by assumption))))))).mono ?_)
      rintro e w1 ⟨rfl, hx1⟩
      have HE : Hid (Ext w w1) := Ext.trans (by with_reducible (repeat (first | exact Ext.refl _ | apply Ext.drewN | apply Ext.drew | apply Ext.alloc | (refine Ext.set ?_ (by first | (simp; done) | (simp; omega) | omega) _) | (refine Ext.trans ?_ (by assumption))))) hx1
      have HN1 : Hid (NBox w1 w.heap.size _) := HN.out.ext hx1
      clear hx1 HN
      obtain ⟨z0, c0, c1, c2, c3, c4, c5⟩ := HN1.out
      dsimp only at c0 c1 c2 c3 c4 c5
      go_wp2_with fail
      (with_reducible refine (l06PropsN_yes w.heap.size 4 P Q nq cp cq da db r _ ⟨z0, c4, c5⟩ (ha.ext HE.out) (hb.ext HE.out) HVK HR).mono ?_)
      rintro e w2 ⟨rfl, hx2⟩
      have HX : Hid (Ext w w2) := HE.out.trans hx2
      clear hx2
      go_wp2
      exact bodyPost_ret (v := .tuple #[.int .i64 r, .int .i64 0]) (by simp [results, Tryz.results10, go_sem, *]) rfl ⟨rfl, HX.out⟩
set_option maxHeartbeats 8000000 in
theorem specNotationBeats_any (V : NV) (D : ND) (r s : Int) (w : World) (hI : NtR w V D) (hS : V.np ≤ 1048576 ∧ V.nq ≤ 1048576) (hr : Hid ((if vnt D = true then nbt D else 0) = r)) (hs0 : Hid ((if vnt D = true then (0 : Int) else 1) = s)) :
    Calls Tryz.prog 12 #[V.val] w fun e w' => e = .returned (.tuple #[.int .i64 r, .int .i64 s]) ∧ Ext w w' := by
  have HN : Hid (NBox (w.alloc (.cells #[.int .i64 V.k, .slice V.A V.na V.ca, .slice V.B V.nb V.cb, .slice V.S V.ns V.cs, .slice V.P V.np V.cp, .slice V.Q V.nq V.cq] 33)) w.heap.size V) := NBox.new w V
  have hIk := hI
  obtain ⟨k, A, na, ca, B, nb, cb, S, ns, cs, P, np, cp, Q, nq, cq⟩ := V
  obtain ⟨kk, dp, dm, ds, da, db⟩ := D
  obtain ⟨hk, hp, hm, hs, ha, hb⟩ := hI
  unfold NV.val
  dsimp only at *
  subst hk
  have HS := Lib.hid hS
  clear hS
  have HI := Lib.hid hIk
  clear hIk
  cases hv : vnt ⟨k, dp, dm, ds, da, db⟩
  · rw [hv] at hr hs0
    have HV := Lib.hid hv
    clear hv
    obtain rfl : (0 : Int) = r := hr.out
    obtain rfl : (1 : Int) = s := hs0.out
    clear hr hs0
    go_enter Tryz.func12, Tryz.ntmps12
    go_wp2_with fail
    (with_reducible refine (l07Ok_is w.heap.size ⟨k, A, na, ca, B, nb, cb, S, ns, cs, P, np, cp, Q, nq, cq⟩ ⟨k, dp, dm, ds, da, db⟩ false HV.out _ HN.out (HI.out.ext (by with_reducible (repeat (first | exact Ext.refl _ | apply Ext.drewN | apply Ext.drew | apply Ext.alloc | (refine Ext.set ?_ (by first | (simp; done) | (simp; omega) | omega) _) | (refine Ext.trans ?_ (by assumption))))))).mono ?_)
    rintro e w1 ⟨rfl, hx1⟩
    have HE : Hid (Ext w w1) := Ext.trans (by with_reducible (repeat (first | exact Ext.refl _ | apply Ext.drewN | apply Ext.drew | apply Ext.alloc | (refine Ext.set ?_ (by first | (simp; done) | (simp; omega) | omega) _) | (refine Ext.trans ?_ (by assumption))))) hx1
    have HN1 : Hid (NBox w1 w.heap.size _) := HN.out.ext hx1
    clear hx1 HN
    obtain ⟨z0, c0, c1, c2, c3, c4, c5⟩ := HN1.out
    dsimp only at c0 c1 c2 c3 c4 c5
    go_wp2
    exact bodyPost_ret (v := .tuple #[.int .i64 0, .int .i64 1]) (by simp [results, Tryz.results12, go_sem, *]) rfl ⟨rfl, HE.out⟩
  · rw [hv, if_pos rfl] at hr
    rw [hv] at hs0
    obtain rfl : (0 : Int) = s := hs0.out
    clear hs0
    have hsp := vnt_split hv
    have hkd := vnt_kind hv
    have HV := Lib.hid hv
    clear hv
    dsimp only at hsp hkd
    have lp := hp.len
    have lm := hm.len
    have ls := hs.len
    have la := ha.len
    have lb := hb.len
    rcases hkd with ⟨hk, hvk⟩ | ⟨hk, hvk⟩ | ⟨hk, hvk⟩ | ⟨hk, hvk⟩
    · subst hk
      have HVK := Lib.hid hvk
      have HR : (dp.length : Int) = r := hr.out
      have hb1 := vpat_len hvk
      have HR2 : Hid ((na : Int) = r) := by show _ = _; omega
      have hnn : na ≤ 12 := by omega
      clear HR hr hsp hvk lp lm ls la lb hb1
      go_enter Tryz.func12, Tryz.ntmps12
      go_wp2_with fail
      (with_reducible refine (l07Ok_is w.heap.size ⟨1, A, na, ca, B, nb, cb, S, ns, cs, P, np, cp, Q, nq, cq⟩ ⟨1, dp, dm, ds, da, db⟩ true HV.out _ HN.out (HI.out.ext (by with_reducible (repeat (first | exact Ext.refl _ | apply Ext.drewN | apply Ext.drew | apply Ext.alloc | (refine Ext.set ?_ (by first | (simp; done) | (simp; omega) | omega) _) | (refine Ext.trans ?_ (by assumption))))))).mono ?_)
      rintro e w1 ⟨rfl, hx1⟩
      have HE : Hid (Ext w w1) := Ext.trans (by with_reducible (repeat (first | exact Ext.refl _ | apply Ext.drewN | apply Ext.drew | apply Ext.alloc | (refine Ext.set ?_ (by first | (simp; done) | (simp; omega) | omega) _) | (refine Ext.trans ?_ (by assumption))))) hx1
      have HN1 : Hid (NBox w1 w.heap.size _) := HN.out.ext hx1
      clear hx1 HN
      obtain ⟨z0, c0, c1, c2, c3, c4, c5⟩ := HN1.out
      dsimp only at c0 c1 c2 c3 c4 c5
      go_wp2
      rw [← HR2.out]
      exact bodyPost_ret (v := .tuple #[.int .i64 ((na : Int)), .int .i64 0]) (by simp [results, Tryz.results12, go_sem, *]) rfl ⟨rfl, HE.out⟩
    · subst hk
      have HVK := Lib.hid hvk
      have HR : (dm.length : Int) = r := hr.out
      have hb1 := vmul_len hvk
      have HR2 : Hid ((nb : Int) = r) := by show _ = _; omega
      have hnn : nb ≤ 12 := by omega
      clear HR hr hsp hvk lp lm ls la lb hb1
      go_enter Tryz.func12, Tryz.ntmps12
      go_wp2_with fail
      (with_reducible refine (l07Ok_is w.heap.size ⟨2, A, na, ca, B, nb, cb, S, ns, cs, P, np, cp, Q, nq, cq⟩ ⟨2, dp, dm, ds, da, db⟩ true HV.out _ HN.out (HI.out.ext (by with_reducible (repeat (first | exact Ext.refl _ | apply Ext.drewN | apply Ext.drew | apply Ext.alloc | (refine Ext.set ?_ (by first | (simp; done) | (simp; omega) | omega) _) | (refine Ext.trans ?_ (by assumption))))))).mono ?_)
      rintro e w1 ⟨rfl, hx1⟩
      have HE : Hid (Ext w w1) := Ext.trans (by with_reducible (repeat (first | exact Ext.refl _ | apply Ext.drewN | apply Ext.drew | apply Ext.alloc | (refine Ext.set ?_ (by first | (simp; done) | (simp; omega) | omega) _) | (refine Ext.trans ?_ (by assumption))))) hx1
      have HN1 : Hid (NBox w1 w.heap.size _) := HN.out.ext hx1
      clear hx1 HN
      obtain ⟨z0, c0, c1, c2, c3, c4, c5⟩ := HN1.out
      dsimp only at c0 c1 c2 c3 c4 c5
      go_wp2
      rw [← HR2.out]
      exact bodyPost_ret (v := .tuple #[.int .i64 ((nb : Int)), .int .i64 0]) (by simp [results, Tryz.results12, go_sem, *]) rfl ⟨rfl, HE.out⟩
    · subst hk
      have HVK := Lib.hid hvk
      have HR : (ds.length : Int) = r := hr.out
      have hb1 := vsyn_len hvk
      have HR2 : Hid (2 * (ns : Int) = r) := by show _ = _; omega
      have hnn : ns ≤ 12 := by omega
      clear HR hr hsp hvk lp lm ls la lb hb1
      go_enter Tryz.func12, Tryz.ntmps12
      go_wp2_with fail
      (with_reducible refine (l07Ok_is w.heap.size ⟨3, A, na, ca, B, nb, cb, S, ns, cs, P, np, cp, Q, nq, cq⟩ ⟨3, dp, dm, ds, da, db⟩ true HV.out _ HN.out (HI.out.ext (by with_reducible (repeat (first | exact Ext.refl _ | apply Ext.drewN | apply Ext.drew | apply Ext.alloc | (refine Ext.set ?_ (by first | (simp; done) | (simp; omega) | omega) _) | (refine Ext.trans ?_ (by assumption))))))).mono ?_)
      rintro e w1 ⟨rfl, hx1⟩
      have HE : Hid (Ext w w1) := Ext.trans (by with_reducible (repeat (first | exact Ext.refl _ | apply Ext.drewN | apply Ext.drew | apply Ext.alloc | (refine Ext.set ?_ (by first | (simp; done) | (simp; omega) | omega) _) | (refine Ext.trans ?_ (by assumption))))) hx1
      have HN1 : Hid (NBox w1 w.heap.size _) := HN.out.ext hx1
      clear hx1 HN
      obtain ⟨z0, c0, c1, c2, c3, c4, c5⟩ := HN1.out
      dsimp only at c0 c1 c2 c3 c4 c5
      have e1 : IntKind.i64.wrap (2 * (ns : Int)) = 2 * ns := IntWalk.i64_in _ (by omega)
      go_wp2
      rw [← HR2.out]
      exact bodyPost_ret (v := .tuple #[.int .i64 (2 * (ns : Int)), .int .i64 0]) (by simp [results, Tryz.results12, go_sem, *]) rfl ⟨rfl, HE.out⟩
    · subst hk
      have HVK := Lib.hid hvk
      have HR : (da.length : Int) = r := hr.out
      have hb1 := vpas_len hvk
      have HR2 : Hid ((np : Int) = r) := by show _ = _; omega
      have hnn : np ≤ 12 := by omega
      clear HR hr hsp hvk lp lm ls la lb hb1
      go_enter Tryz.func12, Tryz.ntmps12
      go_wp2_with fail
      (with_reducible refine (l07Ok_is w.heap.size ⟨4, A, na, ca, B, nb, cb, S, ns, cs, P, np, cp, Q, nq, cq⟩ ⟨4, dp, dm, ds, da, db⟩ true HV.out _ HN.out (HI.out.ext (by with_reducible (repeat (first | exact Ext.refl _ | apply Ext.drewN | apply Ext.drew | apply Ext.alloc | (refine Ext.set ?_ (by first | (simp; done) | (simp; omega) | omega) _) | (refine Ext.trans ?_ (by assumption))))))).mono ?_)
      rintro e w1 ⟨rfl, hx1⟩
      have HE : Hid (Ext w w1) := Ext.trans (by with_reducible (repeat (first | exact Ext.refl _ | apply Ext.drewN | apply Ext.drew | apply Ext.alloc | (refine Ext.set ?_ (by first | (simp; done) | (simp; omega) | omega) _) | (refine Ext.trans ?_ (by assumption))))) hx1
      have HN1 : Hid (NBox w1 w.heap.size _) := HN.out.ext hx1
      clear hx1 HN
      obtain ⟨z0, c0, c1, c2, c3, c4, c5⟩ := HN1.out
      dsimp only at c0 c1 c2 c3 c4 c5
      go_wp2
      rw [← HR2.out]
      exact bodyPost_ret (v := .tuple #[.int .i64 ((np : Int)), .int .i64 0]) (by simp [results, Tryz.results12, go_sem, *]) rfl ⟨rfl, HE.out⟩
set_option maxHeartbeats 8000000 in
theorem implNotationProps_any (V : NV) (D : ND) (r s : Int) (w : World) (hI : NtR w V D) (hS : V.np ≤ 1048576 ∧ V.nq ≤ 1048576) (hr : Hid ((if vnt D = true then npr D else 0) = r)) (hs0 : Hid ((if vnt D = true then (0 : Int) else 1) = s)) :
    Calls Tryz.prog 9 #[V.val] w fun e w' => e = .returned (.tuple #[.int .i64 r, .int .i64 s]) ∧ Ext w w' := by
  have HN : Hid (NBox (w.alloc (.cells #[.int .i64 V.k, .slice V.A V.na V.ca, .slice V.B V.nb V.cb, .slice V.S V.ns V.cs, .slice V.P V.np V.cp, .slice V.Q V.nq V.cq] 33)) w.heap.size V) := NBox.new w V
  have hIk := hI
  obtain ⟨k, A, na, ca, B, nb, cb, S, ns, cs, P, np, cp, Q, nq, cq⟩ := V
  obtain ⟨kk, dp, dm, ds, da, db⟩ := D
  obtain ⟨hk, hp, hm, hs, ha, hb⟩ := hI
  unfold NV.val
  dsimp only at *
  subst hk
  have HS := Lib.hid hS
  clear hS
  have HI := Lib.hid hIk
  clear hIk
  cases hv : vnt ⟨k, dp, dm, ds, da, db⟩
  · rw [hv] at hr hs0
    have HV := Lib.hid hv
    clear hv
    obtain rfl : (0 : Int) = r := hr.out
    obtain rfl : (1 : Int) = s := hs0.out
    clear hr hs0
    go_enter Tryz.func9, Tryz.ntmps9
    go_wp2_with fail
    (with_reducible refine (ValidNotation_x k A na ca B nb cb S ns cs P np cp Q nq cq ⟨k, dp, dm, ds, da, db⟩ false HV.out _ (HI.out.ext (by with_reducible (repeat (first | exact Ext.refl _ | apply Ext.drewN | apply Ext.drew | apply Ext.alloc | (refine Ext.set ?_ (by first | (simp; done) | (simp; omega) | omega) _) | (refine Ext.trans ?_ (by assumption)))))) HS.out).mono ?_)
    rintro e w1 ⟨rfl, hx1⟩
    have HE : Hid (Ext w w1) := Ext.trans (by with_reducible (repeat (first | exact Ext.refl _ | apply Ext.drewN | apply Ext.drew | apply Ext.alloc | (refine Ext.set ?_ (by first | (simp; done) | (simp; omega) | omega) _) | (refine Ext.trans ?_ (by assumption))))) hx1
    have HN1 : Hid (NBox w1 w.heap.size _) := HN.out.ext hx1
    clear hx1 HN
    obtain ⟨z0, c0, c1, c2, c3, c4, c5⟩ := HN1.out
    dsimp only at c0 c1 c2 c3 c4 c5
    go_wp2
    exact bodyPost_ret (v := .tuple #[.int .i64 0, .int .i64 1]) (by simp [results, Tryz.results9, go_sem, *]) rfl ⟨rfl, HE.out⟩
  · rw [hv, if_pos rfl] at hr
    rw [hv] at hs0
    obtain rfl : (0 : Int) = s := hs0.out
    clear hs0
    have hsp := vnt_split hv
    have hkd := vnt_kind hv
    have HV := Lib.hid hv
    clear hv
    dsimp only at hsp hkd
    have lp := hp.len
    have lm := hm.len
    have ls := hs.len
    have la := ha.len
    have lb := hb.len
    rcases hkd with ⟨hk, hvk⟩ | ⟨hk, hvk⟩ | ⟨hk, hvk⟩ | ⟨hk, hvk⟩
    · subst hk
      have HVK := Lib.hid hvk
      have HR : Hid (prp dp = r) := hr.out
      clear hr hsp hvk lp lm ls la lb
      go_enter Tryz.func9, Tryz.ntmps9
      go_wp2_with fail
      (with_reducible refine (ValidNotation_x 1 A na ca B nb cb S ns cs P np cp Q nq cq ⟨1, dp, dm, ds, da, db⟩ true HV.out _ (HI.out.ext (by with_reducible (repeat (first | exact Ext.refl _ | apply Ext.drewN | apply Ext.drew | apply Ext.alloc | (refine Ext.set ?_ (by first | (simp; done) | (simp; omega) | omega) _) | (refine Ext.trans ?_ (by assumption)))))) HS.out).mono ?_)
      rintro e w1 ⟨rfl, hx1⟩
      have HE : Hid (Ext w w1) := Ext.trans (by with_reducible (repeat (first | exact Ext.refl _ | apply Ext.drewN | apply Ext.drew | apply Ext.alloc | (refine Ext.set ?_ (by first | (simp; done) | (simp; omega) | omega) _) | (refine Ext.trans ?_ (by assumption))))) hx1
      have HN1 : Hid (NBox w1 w.heap.size _) := HN.out.ext hx1
      clear hx1 HN
      obtain ⟨z0, c0, c1, c2, c3, c4, c5⟩ := HN1.out
      dsimp only at c0 c1 c2 c3 c4 c5
      go_wp2_with fail
      (with_reducible refine (implPropsOfN_yes A na ca dp r _ (hp.ext HE.out) HVK HR).mono ?_)
      rintro e w2 ⟨rfl, hx2⟩
      have HX : Hid (Ext w w2) := HE.out.trans hx2
      clear hx2
      go_wp2
      exact bodyPost_ret (v := .tuple #[.int .i64 r, .int .i64 0]) (by simp [results, Tryz.results9, go_sem, *]) rfl ⟨rfl, HX.out⟩
    · subst hk
      have HVK := Lib.hid hvk
      have HR : Hid (smm dm / (dm.length : Int) = r) := hr.out
      clear hr hsp hvk lp lm ls la lb
      go_enter Tryz.func9, Tryz.ntmps9
      go_wp2_with fail
      (with_reducible refine (ValidNotation_x 2 A na ca B nb cb S ns cs P np cp Q nq cq ⟨2, dp, dm, ds, da, db⟩ true HV.out _ (HI.out.ext (by with_reducible (repeat (first | exact Ext.refl _ | apply Ext.drewN | apply Ext.drew | apply Ext.alloc | (refine Ext.set ?_ (by first | (simp; done) | (simp; omega) | omega) _) | (refine Ext.trans ?_ (by assumption)))))) HS.out).mono ?_)
      rintro e w1 ⟨rfl, hx1⟩
      have HE : Hid (Ext w w1) := Ext.trans (by with_reducible (repeat (first | exact Ext.refl _ | apply Ext.drewN | apply Ext.drew | apply Ext.alloc | (refine Ext.set ?_ (by first | (simp; done) | (simp; omega) | omega) _) | (refine Ext.trans ?_ (by assumption))))) hx1
      have HN1 : Hid (NBox w1 w.heap.size _) := HN.out.ext hx1
      clear hx1 HN
      obtain ⟨z0, c0, c1, c2, c3, c4, c5⟩ := HN1.out
      dsimp only at c0 c1 c2 c3 c4 c5
      go_wp2_with fail
      (with_reducible refine (implMultiProps_yes B nb cb dm r _ (hm.ext HE.out) HVK HR).mono ?_)
      rintro e w2 ⟨rfl, hx2⟩
      have HX : Hid (Ext w w2) := HE.out.trans hx2
      clear hx2
      go_wp2
      exact bodyPost_ret (v := .tuple #[.int .i64 r, .int .i64 0]) (by simp [results, Tryz.results9, go_sem, *]) rfl ⟨rfl, HX.out⟩
    · subst hk
      have HVK := Lib.hid hvk
      have HR : Hid (smi (tv ds) ds.length / (ds.length : Int) = r) := hr.out
      clear hr hsp hvk lp lm ls la lb
      go_enter Tryz.func9, Tryz.ntmps9
      go_wp2_with fail
      (with_reducible refine (ValidNotation_x 3 A na ca B nb cb S ns cs P np cp Q nq cq ⟨3, dp, dm, ds, da, db⟩ true HV.out _ (HI.out.ext (by with_reducible (repeat (first | exact Ext.refl _ | apply Ext.drewN | apply Ext.drew | apply Ext.alloc | (refine Ext.set ?_ (by first | (simp; done) | (simp; omega) | omega) _) | (refine Ext.trans ?_ (by assumption)))))) HS.out).mono ?_)
      rintro e w1 ⟨rfl, hx1⟩
      have HE : Hid (Ext w w1) := Ext.trans (by with_reducible (repeat (first | exact Ext.refl _ | apply Ext.drewN | apply Ext.drew | apply Ext.alloc | (refine Ext.set ?_ (by first | (simp; done) | (simp; omega) | omega) _) | (refine Ext.trans ?_ (by assumption))))) hx1
      have HN1 : Hid (NBox w1 w.heap.size _) := HN.out.ext hx1
      clear hx1 HN
      obtain ⟨z0, c0, c1, c2, c3, c4, c5⟩ := HN1.out
      dsimp only at c0 c1 c2 c3 c4 c5
      go_wp2_with fail
      (with_reducible refine (implSyncProps_yes S ns cs ds r _ (hs.ext HE.out) HVK HR).mono ?_)
      rintro e w2 ⟨rfl, hx2⟩
      have HX : Hid (Ext w w2) := HE.out.trans hx2
      clear hx2
      go_wp2
      exact bodyPost_ret (v := .tuple #[.int .i64 r, .int .i64 0]) (by simp [results, Tryz.results9, go_sem, *]) rfl ⟨rfl, HX.out⟩
    · subst hk
      have HVK := Lib.hid hvk
      have HR : Hid (smi (fun i => tv da i + tv db i) da.length / (da.length : Int) = r) := hr.out
      have hl4 := vpas_len hvk
      obtain rfl : nq = np := by omega
      clear hr hsp hvk lp lm ls la lb hl4
      go_enter Tryz.func9, Tryz.ntmps9
      go_wp2_with fail
      (with_reducible refine (ValidNotation_x 4 A na ca B nb cb S ns cs P nq cp Q nq cq ⟨4, dp, dm, ds, da, db⟩ true HV.out _ (HI.out.ext (by with_reducible (repeat (first | exact Ext.refl _ | apply Ext.drewN | apply Ext.drew | apply Ext.alloc | (refine Ext.set ?_ (by first | (simp; done) | (simp; omega) | omega) _) | (refine Ext.trans ?_ (by assumption)))))) HS.out).mono ?_)
      rintro e w1 ⟨rfl, hx1⟩
      have HE : Hid (Ext w w1) := Ext.trans (by with_reducible (repeat (first | exact Ext.refl _ | apply Ext.drewN | apply Ext.drew | apply Ext.alloc | (refine Ext.set ?_ (by first | (simp; done) | (simp; omega) | omega) _) | (refine Ext.trans ?_ (by assumption))))) hx1
      have HN1 : Hid (NBox w1 w.heap.size _) := HN.out.ext hx1
      clear hx1 HN
      obtain ⟨z0, c0, c1, c2, c3, c4, c5⟩ := HN1.out
      dsimp only at c0 c1 c2 c3 c4 c5
      go_wp2_with fail
      (with_reducible refine (implPassingPropsN_yes P Q nq cp cq da db r _ (ha.ext HE.out) (hb.ext HE.out) HVK HR).mono ?_)
      rintro e w2 ⟨rfl, hx2⟩
      have HX : Hid (Ext w w2) := HE.out.trans hx2
      clear hx2
      go_wp2
      exact bodyPost_ret (v := .tuple #[.int .i64 r, .int .i64 0]) (by simp [results, Tryz.results9, go_sem, *]) rfl ⟨rfl, HX.out⟩
set_option maxHeartbeats 8000000 in
theorem implNotationBeats_any (V : NV) (D : ND) (r s : Int) (w : World) (hI : NtR w V D) (hS : V.np ≤ 1048576 ∧ V.nq ≤ 1048576) (hr : Hid ((if vnt D = true then nbt D else 0) = r)) (hs0 : Hid ((if vnt D = true then (0 : Int) else 1) = s)) :
    Calls Tryz.prog 11 #[V.val] w fun e w' => e = .returned (.tuple #[.int .i64 r, .int .i64 s]) ∧ Ext w w' := by
  have HN : Hid (NBox (w.alloc (.cells #[.int .i64 V.k, .slice V.A V.na V.ca, .slice V.B V.nb V.cb, .slice V.S V.ns V.cs, .slice V.P V.np V.cp, .slice V.Q V.nq V.cq] 33)) w.heap.size V) := NBox.new w V
  have hIk := hI
  obtain ⟨k, A, na, ca, B, nb, cb, S, ns, cs, P, np, cp, Q, nq, cq⟩ := V
  obtain ⟨kk, dp, dm, ds, da, db⟩ := D
  obtain ⟨hk, hp, hm, hs, ha, hb⟩ := hI
  unfold NV.val
  dsimp only at *
  subst hk
  have HS := Lib.hid hS
  clear hS
  have HI := Lib.hid hIk
  clear hIk
  cases hv : vnt ⟨k, dp, dm, ds, da, db⟩
  · rw [hv] at hr hs0
    have HV := Lib.hid hv
    clear hv
    obtain rfl : (0 : Int) = r := hr.out
    obtain rfl : (1 : Int) = s := hs0.out
    clear hr hs0
    go_enter Tryz.func11, Tryz.ntmps11
    go_wp2_with fail
    (with_reducible refine (ValidNotation_x k A na ca B nb cb S ns cs P np cp Q nq cq ⟨k, dp, dm, ds, da, db⟩ false HV.out _ (HI.out.ext (by with_reducible (repeat (first | exact Ext.refl _ | apply Ext.drewN | apply Ext.drew | apply Ext.alloc | (refine Ext.set ?_ (by first | (simp; done) | (simp; omega) | omega) _) | (refine Ext.trans ?_ (by assumption)))))) HS.out).mono ?_)
    rintro e w1 ⟨rfl, hx1⟩
    have HE : Hid (Ext w w1) := Ext.trans (by with_reducible (repeat (first | exact Ext.refl _ | apply Ext.drewN | apply Ext.drew | apply Ext.alloc | (refine Ext.set ?_ (by first | (simp; done) | (simp; omega) | omega) _) | (refine Ext.trans ?_ (by assumption))))) hx1
    have HN1 : Hid (NBox w1 w.heap.size _) := HN.out.ext hx1
    clear hx1 HN
    obtain ⟨z0, c0, c1, c2, c3, c4, c5⟩ := HN1.out
    dsimp only at c0 c1 c2 c3 c4 c5
    go_wp2
    exact bodyPost_ret (v := .tuple #[.int .i64 0, .int .i64 1]) (by simp [results, Tryz.results11, go_sem, *]) rfl ⟨rfl, HE.out⟩
  · rw [hv, if_pos rfl] at hr
    rw [hv] at hs0
    obtain rfl : (0 : Int) = s := hs0.out
    clear hs0
    have hsp := vnt_split hv
    have hkd := vnt_kind hv
    have HV := Lib.hid hv
    clear hv
    dsimp only at hsp hkd
    have lp := hp.len
    have lm := hm.len
    have ls := hs.len
    have la := ha.len
    have lb := hb.len
    rcases hkd with ⟨hk, hvk⟩ | ⟨hk, hvk⟩ | ⟨hk, hvk⟩ | ⟨hk, hvk⟩
    · subst hk
      have HVK := Lib.hid hvk
      have HR : (dp.length : Int) = r := hr.out
      have hb1 := vpat_len hvk
      have HR2 : Hid ((na : Int) = r) := by show _ = _; omega
      obtain rfl : nb = 0 := by omega
      obtain rfl : ns = 0 := by omega
      obtain rfl : np = 0 := by omega
      have hnn : na ≤ 12 := by omega
      clear HR hr hsp hvk lp lm ls la lb hb1
      go_enter Tryz.func11, Tryz.ntmps11
      go_wp2_with fail
      (with_reducible refine (ValidNotation_x 1 A na ca B 0 cb S 0 cs P 0 cp Q nq cq ⟨1, dp, dm, ds, da, db⟩ true HV.out _ (HI.out.ext (by with_reducible (repeat (first | exact Ext.refl _ | apply Ext.drewN | apply Ext.drew | apply Ext.alloc | (refine Ext.set ?_ (by first | (simp; done) | (simp; omega) | omega) _) | (refine Ext.trans ?_ (by assumption)))))) HS.out).mono ?_)
      rintro e w1 ⟨rfl, hx1⟩
      have HE : Hid (Ext w w1) := Ext.trans (by with_reducible (repeat (first | exact Ext.refl _ | apply Ext.drewN | apply Ext.drew | apply Ext.alloc | (refine Ext.set ?_ (by first | (simp; done) | (simp; omega) | omega) _) | (refine Ext.trans ?_ (by assumption))))) hx1
      have HN1 : Hid (NBox w1 w.heap.size _) := HN.out.ext hx1
      clear hx1 HN
      obtain ⟨z0, c0, c1, c2, c3, c4, c5⟩ := HN1.out
      dsimp only at c0 c1 c2 c3 c4 c5
      go_wp2
      rw [← HR2.out]
      exact bodyPost_ret (v := .tuple #[.int .i64 ((na : Int)), .int .i64 0]) (by simp [results, Tryz.results11, go_sem, *]) rfl ⟨rfl, HE.out⟩
    · subst hk
      have HVK := Lib.hid hvk
      have HR : (dm.length : Int) = r := hr.out
      have hb1 := vmul_len hvk
      have HR2 : Hid ((nb : Int) = r) := by show _ = _; omega
      obtain rfl : na = 0 := by omega
      obtain rfl : ns = 0 := by omega
      obtain rfl : np = 0 := by omega
      have hnn : nb ≤ 12 := by omega
      clear HR hr hsp hvk lp lm ls la lb hb1
      go_enter Tryz.func11, Tryz.ntmps11
      go_wp2_with fail
      (with_reducible refine (ValidNotation_x 2 A 0 ca B nb cb S 0 cs P 0 cp Q nq cq ⟨2, dp, dm, ds, da, db⟩ true HV.out _ (HI.out.ext (by with_reducible (repeat (first | exact Ext.refl _ | apply Ext.drewN | apply Ext.drew | apply Ext.alloc | (refine Ext.set ?_ (by first | (simp; done) | (simp; omega) | omega) _) | (refine Ext.trans ?_ (by assumption)))))) HS.out).mono ?_)
      rintro e w1 ⟨rfl, hx1⟩
      have HE : Hid (Ext w w1) := Ext.trans (by with_reducible (repeat (first | exact Ext.refl _ | apply Ext.drewN | apply Ext.drew | apply Ext.alloc | (refine Ext.set ?_ (by first | (simp; done) | (simp; omega) | omega) _) | (refine Ext.trans ?_ (by assumption))))) hx1
      have HN1 : Hid (NBox w1 w.heap.size _) := HN.out.ext hx1
      clear hx1 HN
      obtain ⟨z0, c0, c1, c2, c3, c4, c5⟩ := HN1.out
      dsimp only at c0 c1 c2 c3 c4 c5
      go_wp2
      rw [← HR2.out]
      exact bodyPost_ret (v := .tuple #[.int .i64 ((nb : Int)), .int .i64 0]) (by simp [results, Tryz.results11, go_sem, *]) rfl ⟨rfl, HE.out⟩
    · subst hk
      have HVK := Lib.hid hvk
      have HR : (ds.length : Int) = r := hr.out
      have hb1 := vsyn_len hvk
      have HR2 : Hid (2 * (ns : Int) = r) := by show _ = _; omega
      obtain rfl : na = 0 := by omega
      obtain rfl : nb = 0 := by omega
      obtain rfl : np = 0 := by omega
      have hnn : ns ≤ 12 := by omega
      clear HR hr hsp hvk lp lm ls la lb hb1
      go_enter Tryz.func11, Tryz.ntmps11
      go_wp2_with fail
      (with_reducible refine (ValidNotation_x 3 A 0 ca B 0 cb S ns cs P 0 cp Q nq cq ⟨3, dp, dm, ds, da, db⟩ true HV.out _ (HI.out.ext (by with_reducible (repeat (first | exact Ext.refl _ | apply Ext.drewN | apply Ext.drew | apply Ext.alloc | (refine Ext.set ?_ (by first | (simp; done) | (simp; omega) | omega) _) | (refine Ext.trans ?_ (by assumption)))))) HS.out).mono ?_)
      rintro e w1 ⟨rfl, hx1⟩
      have HE : Hid (Ext w w1) := Ext.trans (by with_reducible (repeat (first | exact Ext.refl _ | apply Ext.drewN | apply Ext.drew | apply Ext.alloc | (refine Ext.set ?_ (by first | (simp; done) | (simp; omega) | omega) _) | (refine Ext.trans ?_ (by assumption))))) hx1
      have HN1 : Hid (NBox w1 w.heap.size _) := HN.out.ext hx1
      clear hx1 HN
      obtain ⟨z0, c0, c1, c2, c3, c4, c5⟩ := HN1.out
      dsimp only at c0 c1 c2 c3 c4 c5
      have e1 : IntKind.i64.wrap (2 * (ns : Int)) = 2 * ns := IntWalk.i64_in _ (by omega)
      go_wp2
      rw [← HR2.out]
      exact bodyPost_ret (v := .tuple #[.int .i64 (2 * (ns : Int)), .int .i64 0]) (by simp [results, Tryz.results11, go_sem, *]) rfl ⟨rfl, HE.out⟩
    · subst hk
      have HVK := Lib.hid hvk
      have HR : (da.length : Int) = r := hr.out
      have hb1 := vpas_len hvk
      have HR2 : Hid ((np : Int) = r) := by show _ = _; omega
      obtain rfl : na = 0 := by omega
      obtain rfl : nb = 0 := by omega
      obtain rfl : ns = 0 := by omega
      have hnn : np ≤ 12 := by omega
      clear HR hr hsp hvk lp lm ls la lb hb1
      go_enter Tryz.func11, Tryz.ntmps11
      go_wp2_with fail
      (with_reducible refine (ValidNotation_x 4 A 0 ca B 0 cb S 0 cs P np cp Q nq cq ⟨4, dp, dm, ds, da, db⟩ true HV.out _ (HI.out.ext (by with_reducible (repeat (first | exact Ext.refl _ | apply Ext.drewN | apply Ext.drew | apply Ext.alloc | (refine Ext.set ?_ (by first | (simp; done) | (simp; omega) | omega) _) | (refine Ext.trans ?_ (by assumption)))))) HS.out).mono ?_)
      rintro e w1 ⟨rfl, hx1⟩
      have HE : Hid (Ext w w1) := Ext.trans (by with_reducible (repeat (first | exact Ext.refl _ | apply Ext.drewN | apply Ext.drew | apply Ext.alloc | (refine Ext.set ?_ (by first | (simp; done) | (simp; omega) | omega) _) | (refine Ext.trans ?_ (by assumption))))) hx1
      have HN1 : Hid (NBox w1 w.heap.size _) := HN.out.ext hx1
      clear hx1 HN
      obtain ⟨z0, c0, c1, c2, c3, c4, c5⟩ := HN1.out
      dsimp only at c0 c1 c2 c3 c4 c5
      go_wp2
      rw [← HR2.out]
      exact bodyPost_ret (v := .tuple #[.int .i64 ((np : Int)), .int .i64 0]) (by simp [results, Tryz.results11, go_sem, *]) rfl ⟨rfl, HE.out⟩
set_option maxHeartbeats 2000000 in
theorem specValidNotation_any (V : NV) (D : ND) (v : Bool) (w : World) (hI : NtR w V D) (hv : vnt D = v) :
    Calls Tryz.prog 17 #[V.val] w fun e w' => e = .returned (.bool v) ∧ Ext w w' := by
  have HN : Hid (NBox (w.alloc (.cells #[.int .i64 V.k, .slice V.A V.na V.ca, .slice V.B V.nb V.cb, .slice V.S V.ns V.cs, .slice V.P V.np V.cp, .slice V.Q V.nq V.cq] 33)) w.heap.size V) := NBox.new w V
  have HI := Lib.hid hI
  have HV := Lib.hid hv
  clear hI hv
  obtain ⟨k, A, na, ca, B, nb, cb, S, ns, cs, P, np, cp, Q, nq, cq⟩ := V
  unfold NV.val
  dsimp only at *
  go_enter Tryz.func17, Tryz.ntmps17
  go_wp2_with fail
  (with_reducible refine (l07Ok_is w.heap.size ⟨k, A, na, ca, B, nb, cb, S, ns, cs, P, np, cp, Q, nq, cq⟩ D v HV.out _ HN.out (HI.out.ext (by with_reducible (repeat (first | exact Ext.refl _ | apply Ext.drewN | apply Ext.drew | apply Ext.alloc | (refine Ext.set ?_ (by first | (simp; done) | (simp; omega) | omega) _) | (refine Ext.trans ?_ (by assumption))))))).mono ?_)
  rintro e w1 ⟨rfl, hx1⟩
  have HE : Hid (Ext w w1) := Ext.trans (by with_reducible (repeat (first | exact Ext.refl _ | apply Ext.drewN | apply Ext.drew | apply Ext.alloc | (refine Ext.set ?_ (by first | (simp; done) | (simp; omega) | omega) _) | (refine Ext.trans ?_ (by assumption))))) hx1
  clear hx1 HN
  go_wp2
  go_ret
  exact ⟨rfl, HE.out⟩
end Go.Proofs.YtbihbhdaenhdoaaGreat

namespace Go.Proofs.YtbihbhdaenhdoaaGreat
set_option linter.unusedVariables false
set_option linter.unusedSimpArgs false
open Go.ChangeShapes Go.WideShapes Go.ChangeAt Go.RowKit Go.Joins Go.Deep

/-- The numbers below its length, each once. -/
structure Pm (xs : List Int) : Prop where
  bd : ∀ i, i < xs.length → 0 ≤ xs[i]?.getD 0 ∧ xs[i]?.getD 0 < xs.length
  inj : ∀ i j, i < xs.length → j < xs.length → xs[i]?.getD 0 = xs[j]?.getD 0 → i = j
theorem Pm.nil : Pm [] := ⟨fun i h => absurd h (by simp), fun i j h => absurd h (by simp)⟩
/-- One more number, laid in at a place. -/
def lay (xs : List Int) (p : Nat) : List Int := ((xs ++ [(xs.length : Int)]).set xs.length ((xs ++ [(xs.length : Int)])[p]?.getD 0)).set p (xs.length : Int)
theorem lay_len (xs : List Int) (p : Nat) : (lay xs p).length = xs.length + 1 := by simp [lay]
theorem lay_get {xs : List Int} {p i : Nat} (hp : p ≤ xs.length) (hi : i ≤ xs.length) : (lay xs p)[i]?.getD 0 = if i = p then (xs.length : Int) else if i = xs.length then xs[p]?.getD 0 else xs[i]?.getD 0 := by
  unfold lay
  by_cases h1 : i = p
  · subst h1
    rw [if_pos rfl, List.getElem?_set_self (by simp; omega)]
    rfl
  · rw [if_neg h1, List.getElem?_set_ne (by omega)]
    by_cases h2 : i = xs.length
    · subst h2
      rw [if_pos rfl, List.getElem?_set_self (by simp), List.getElem?_append_left (by omega)]
      rfl
    · rw [if_neg h2, List.getElem?_set_ne (by omega), List.getElem?_append_left (by omega)]
theorem Pm.step {xs : List Int} {p : Nat} (h : Pm xs) (hp : p ≤ xs.length) : Pm (lay xs p) := by
  have hb := h.bd
  constructor
  · intro i hi
    rw [lay_len] at hi ⊢
    rw [lay_get hp (by omega)]
    split
    · omega
    · split
      · have := hb p (by omega)
        omega
      · have := hb i (by omega)
        omega
  · intro i j hi hj e
    rw [lay_len] at hi hj
    rw [lay_get hp (by omega), lay_get hp (by omega)] at e
    have hI := h.inj
    by_cases h1 : i = p
    · by_cases h2 : j = p
      · omega
      · rw [if_pos h1, if_neg h2] at e
        by_cases h3 : j = xs.length
        · rw [if_pos h3] at e
          have := hb p (by omega)
          omega
        · rw [if_neg h3] at e
          have := hb j (by omega)
          omega
    · rw [if_neg h1] at e
      by_cases h2 : j = p
      · rw [if_pos h2] at e
        by_cases h3 : i = xs.length
        · rw [if_pos h3] at e
          have := hb p (by omega)
          omega
        · rw [if_neg h3] at e
          have := hb i (by omega)
          omega
      · rw [if_neg h2] at e
        by_cases h3 : i = xs.length
        · by_cases h4 : j = xs.length
          · omega
          · rw [if_pos h3, if_neg h4] at e
            have := hI p j (by omega) (by omega) e
            omega
        · by_cases h4 : j = xs.length
          · rw [if_neg h3, if_pos h4] at e
            have := hI i p (by omega) (by omega) e
            omega
          · rw [if_neg h3, if_neg h4] at e
            exact hI i j (by omega) (by omega) e
/-- The throw k of the drawn pattern: its value and whether it crosses; b tells whether it is thrown a round higher. -/
def dth (n : Nat) (xs : List Int) (b : Bool) (k : Nat) : Int × Bool :=
  let v := 2 * ((xs[k]?.getD 0 / 2 - (k / 2 : Nat)) % (n : Int))
  let c := decide (xs[k]?.getD 0 % 2 ≠ (k % 2 : Nat))
  (if v = 0 ∧ c = true ∨ b = true then v + 2 * n else v, c)
theorem dth_lnd {n : Nat} {xs : List Int} {b : Bool} {k : Nat} (hn : 1 ≤ n ∧ n ≤ 3) (hk : k < 2 * n) (hx : 0 ≤ xs[k]?.getD 0 ∧ xs[k]?.getD 0 < 2 * n) :
    sok (dth n xs b k).1 (dth n xs b k).2 = true ∧ (((k / 2 + (dth n xs b k).1.toNat / 2) % n * 2 + (if (dth n xs b k).2 then 1 - k % 2 else k % 2) : Nat) : Int) = xs[k]?.getD 0 := by
  unfold dth sok
  dsimp only
  generalize xs[k]?.getD 0 = x at hx ⊢
  have hn' : n = 1 ∨ n = 2 ∨ n = 3 := by omega
  simp only [Bool.and_eq_true, Bool.or_eq_true, Bool.not_eq_true', btw_iff, decide_eq_true_iff, decide_eq_false_iff_not]
  cases b
  · rcases hn' with rfl | rfl | rfl <;> simp only [Bool.false_eq_true, or_false] <;> split <;> refine ⟨⟨⟨by omega, by omega⟩, by omega⟩, ?_⟩ <;> split <;> omega
  · rcases hn' with rfl | rfl | rfl <;> simp only [or_true, if_true] <;> refine ⟨⟨⟨by omega, by omega⟩, by omega⟩, ?_⟩ <;> split <;> omega
/-- The drawn pattern is valid. -/
theorem vsyn_dth {n : Nat} {xs : List Int} {b : Nat → Bool} {ts : List (Int × Bool)} (hn : 1 ≤ n ∧ n ≤ 3) (hP : Pm xs) (hx : xs.length = 2 * n) (hl : ts.length = 2 * n)
    (ht : ∀ i, i < 2 * n → tv ts i = (dth n xs (b i) i).1 ∧ tp ts i = (dth n xs (b i) i).2) : vsyn ts = true := by
  have hk : ∀ i, i < 2 * n → sok (tv ts i) (tp ts i) = true ∧ (sl n ts i : Int) = xs[i]?.getD 0 := fun i hi => by
    have hb := hP.bd i (by omega)
    have h := dth_lnd (b := b i) hn hi ⟨hb.1, by omega⟩
    unfold sl
    rw [(ht i hi).1, (ht i hi).2]
    exact h
  unfold vsyn slis alls scl
  rw [Bool.and_eq_true, Bool.and_eq_true, decide_eq_true_iff, decide_eq_true_iff, btw_iff, hl]
  refine ⟨⟨fun i hi => (hk i hi).1, by omega, by omega⟩, fun j hj i hi e => ?_⟩
  rw [show 2 * n / 2 = n by omega] at e
  have h1 := (hk i (by omega)).2
  have h2 := (hk j hj).2
  have := hP.inj i j (by omega) (by omega) (by rw [← h1, ← h2, e])
  omega
end Go.Proofs.YtbihbhdaenhdoaaGreat

namespace Go.Proofs.YtbihbhdaenhdoaaGreat
set_option linter.unusedVariables false
set_option linter.unusedSimpArgs false
open Go.ChangeShapes Go.WideShapes Go.ChangeAt Go.RowKit Go.Joins Go.Deep

theorem infoBeatD : (Tryz.prog.info? 102).map (fun i => (i.zero, i.size, i.bytes)) = some (some (.agg #[.int .i64 0, .bool false, .int .i64 0, .bool false]), 4, 32) := by kernel_rfl
theorem run_make_beatsD (n : Nat) (hn : n ≤ 1048576) (w : World) :
    (Instr.makeSlice 28 (.int .i64 (n : Int)) (.int .i64 (n : Int))).run Tryz.prog w = .ok (.slice (some ⟨w.heap.size, 0, none⟩) n n) (w.alloc (.cells (madeCells #[.int .i64 0, .bool false, .int .i64 0, .bool false] (n * 4)) 102)) := by
  obtain ⟨i, hi, hzz⟩ := Option.map_eq_some_iff.1 infoBeatD
  simp only [Prod.mk.injEq] at hzz
  obtain ⟨hz, hs, hb⟩ := hzz
  have hr := run_make (P := Tryz.prog) w 28 102 i _ Tryz.underlying28 hi hz .i64 .i64 n n (by omega) (Int.le_refl _) (by rw [hb]; omega) (by omega)
  simp only [Int.toNat_natCast, hs] at hr
  exact hr
/-- The throws below k are laid, each with a choice of its own. -/
def LaidS (N : Nat) (ys : List Int) (cs : List Value) (bs : Nat → Bool) (k : Nat) : Prop := ∀ i, i < k → cs[2 * i]? = some (.int .i64 (dth N ys (bs i) i).1) ∧ cs[2 * i + 1]? = some (.bool (dth N ys (bs i) i).2)
theorem LaidS.put {N : Nat} {ys : List Int} {cs : List Value} {bs : Nat → Bool} {k : Nat} (h : LaidS N ys cs bs k) (hk : 2 * k + 1 < cs.length) (b : Bool) {v : Int} {c : Bool} (hv : (dth N ys b k).1 = v) (hc : (dth N ys b k).2 = c) :
    LaidS N ys ((cs.set (2 * k) (.int .i64 v)).set (2 * k + 1) (.bool c)) (fun i => if i = k then b else bs i) (k + 1) := fun i hi => by
  dsimp only
  by_cases e : i = k
  · subst e
    rw [if_pos rfl, hv, hc]
    constructor
    · rw [List.getElem?_set_ne (by omega), List.getElem?_set_self (by omega)]
    · rw [List.getElem?_set_self (by simp; omega)]
  · rw [if_neg e]
    have := h i (by omega)
    rw [List.getElem?_set_ne (by omega), List.getElem?_set_ne (by omega), List.getElem?_set_ne (by omega), List.getElem?_set_ne (by omega)]
    exact this
/-- All throws are laid: a row of beats that are a pattern. -/
theorem LaidS.fin {w : World} {lo hi N : Nat} {A : Option Addr} {c : Nat} {ys : List Int} {cs : List Value} {bs : Nat → Bool} (hN : 1 ≤ N ∧ N ≤ 3) (hP : Pm ys) (hy : ys.length = 2 * N) (h : LaidS N ys cs bs (2 * N)) (hr : RowG w lo hi 102 4 A N c cs) :
    ∃ ts, RowS w lo hi A N c ts ∧ vsyn ts = true := by
  refine ⟨(List.range (2 * N)).map (fun i => dth N ys (bs i) i), ⟨by simp, cs, hr, fun i hi => ?_⟩, vsyn_dth (b := bs) hN hP hy (by simp) (fun i hi => ?_)⟩
  · have e : ∀ j, j < 2 * N → tv ((List.range (2 * N)).map (fun i => dth N ys (bs i) i)) j = (dth N ys (bs j) j).1 ∧ tp ((List.range (2 * N)).map (fun i => dth N ys (bs i) i)) j = (dth N ys (bs j) j).2 := fun j hj => by simp [tv, tp, hj]
    have h0 := h (2 * i) (by omega)
    have h1 := h (2 * i + 1) (by omega)
    rw [(e (2 * i) (by omega)).1, (e (2 * i) (by omega)).2, (e (2 * i + 1) (by omega)).1, (e (2 * i + 1) (by omega)).2, show i * 4 = 2 * (2 * i) by omega, show 2 * (2 * i) + 2 = 2 * (2 * i + 1) by omega, show 2 * (2 * i) + 3 = 2 * (2 * i + 1) + 1 by omega]
    exact ⟨h0.1, h0.2, h1.1, h1.2⟩
  · simp [tv, tp, hi]
/-- A drawn synchronous pattern, in memory made behind w. -/
def DrawnS (w0 w : World) (g : Nat) (A : Option Addr) (n c : Nat) (xs : List Int) (top : Nat) (e : Ending) (w' : World) : Prop :=
  ∃ (B : Option Addr) (N d : Nat) (ts : List (Int × Bool)), e = .returned (.slice B N d) ∧ (1 ≤ N ∧ N ≤ 3) ∧ RowS w' w.heap.size w'.heap.size B N d ts ∧ vsyn ts = true ∧ Srd w0 w' g A n c xs top ∧ w.grownBy w' (some g)
theorem grownS_frozen {w w' : World} {g b : Nat} (k : w.grownBy w' (some g)) (hb : b < w.heap.size) (hne : b ≠ g) (o : Nat) : w'.frozen? ⟨b, o, none⟩ = w.frozen? ⟨b, o, none⟩ :=
  World.frozen?_of_block (k.block b hb (fun e => hne (by cases e; rfl)))
/-- The block gl holds the numbers ys. -/
def CellsI (W : World) (gl m : Nat) (ys : List Int) : Prop := ∀ i, i < m → W.cell? ⟨gl, i, none⟩ = some (.int .i64 (ys[i]?.getD 0))
theorem CellsI.ext {W W' : World} {gl m : Nat} {ys : List Int} (h : CellsI W gl m ys) (hg : gl < W.heap.size) (k : Ext W W') : CellsI W' gl m ys := fun i hi => k.cell hg (h i hi)
theorem CellsI.grown {W W' : World} {gl m g : Nat} {ys : List Int} (h : CellsI W gl m ys) (hg : gl < W.heap.size) (hne : gl ≠ g) (k : W.grownBy W' (some g)) : CellsI W' gl m ys := fun i hi => (grown_cell k hg hne i).trans (h i hi)
theorem CellsI.put {W : World} {gl m b o : Nat} {ys : List Int} (h : CellsI W gl m ys) (hne : b ≠ gl) (v : Value) : CellsI (W.setCell ⟨b, o, none⟩ v) gl m ys := fun i hi => cell_oth (blk_ne hne) (h i hi)
/-- What the box of a drawn throw tells. -/
def SBx (wr : World) (v : Int) (c : Bool) (p : Value) (wx : World) : Prop := p = .pointer (some ⟨wr.heap.size, 0, none⟩) ∧ Ext wr wx ∧ wx.heap[wr.heap.size]? = some (.cells #[.int .i64 v, .bool c] 99 (0, 0))
theorem dth_is {N : Nat} {ys : List Int} {b : Bool} {j p r : Nat} {c : Bool} (hy : ys[j]?.getD 0 = p) (hr : ((p : Int) / 2 - (j : Int) / 2) % (N : Int) = r) (hc : ((p : Int).tmod 2 != (j : Int).tmod 2) = c) :
    (dth N ys b j).1 = (if 2 * (r : Int) = 0 ∧ c = true ∨ b = true then 2 * (r : Int) + 2 * N else 2 * r) ∧ (dth N ys b j).2 = c := by
  rw [Int.tmod_eq_emod_of_nonneg (by omega), Int.tmod_eq_emod_of_nonneg (by omega)] at hc
  have hc' : decide ((p : Int) % 2 ≠ ((j % 2 : Nat) : Int)) = c := by
    rw [← hc, bne, show ((j % 2 : Nat) : Int) = (j : Int) % 2 by omega]
    by_cases h : (p : Int) % 2 = (j : Int) % 2
    · simp [h]
    · simp [h]
  unfold dth
  dsimp only
  rw [hy, hc', show ((j / 2 : Nat) : Int) = (j : Int) / 2 by omega, hr]
  exact ⟨rfl, rfl⟩
set_option maxHeartbeats 8000000 in
set_option maxRecDepth 100000 in
theorem l05Draw_any (w0 w : World) (g : Nat) (A : Option Addr) (n c : Nat) (xs : List Int) (top : Nat) (h : Srd w0 w g A n c xs top) (ht : top ≤ 600000000) :
    Calls Tryz.prog 83 #[.pointer (some ⟨g, 0, none⟩), .int .i64 3] w (DrawnS w0 w g A n c xs (top + 60)) := by
  have hlt := h.lt
  go_enter Tryz.func83, Tryz.ntmps83
  go_wp2_with fail
  (with_reducible refine (pick_any 3 w0 _ g A n c xs top h (by omega)).mono ?_)
  rintro e w1 ⟨x, rfl, hx, hs1, hg1⟩
  obtain ⟨N, hN⟩ : ∃ r : Nat, 1 + x = r := ⟨(1 + x).toNat, by omega⟩
  have hNb : 1 ≤ N ∧ N ≤ 3 := by omega
  have hz1 := hg1.size
  have hg2 := grown_new hg1 (.cells #[] 2)
  have hs2 := hs1.after (show Ext w1 (w1.alloc (.cells #[] 2)) from (by with_reducible (repeat (first | exact Ext.refl _ | apply Ext.drewN | apply Ext.drew | apply Ext.alloc | (refine Ext.set ?_ (by first | (simp; done) | (simp; omega) | omega) _) | (refine Ext.trans ?_ (by assumption))))))
  have e2N : IntKind.i64.wrap (2 * (N : Int)) = 2 * N := IntWalk.i64_in _ (by omega)
  go_wp2
  go_loopw [6, 7, 8] (fun v i _ wr => ∃ (k : Nat) (ys : List Int), k ≤ 2 * N ∧ i = .int .i64 k ∧ wr.ownsRow w.heap.size 2 1 v k (ys.map (Value.int .i64)) ∧ Hid (Pm ys) ∧ Srd w0 wr g A n c xs (top + 2 + 2 * k) ∧ w.grownBy wr (some g)) (fun _ i _ _ => 2 * N - (intOf i).toNat)
  case atStart => exact ⟨0, [], by omega, rfl, own_new w1 hz1, Pm.nil, hs2, hg2⟩
  case round =>
    obtain ⟨k, ys, hk, rfl, hown, hbd, hsr, hgr⟩ := hrel
    by_cases hkr : k < 2 * N
    · have hki : (k : Int) < 2 * (N : Int) := by omega
      have hzr := hgr.size
      have HB := hbd
      clear hbd
      go_wp2_with fail
      (with_reducible refine (pick_any (k + 1) w0 _ g A n c xs _ hsr (by omega)).mono ?_)
      rintro e w2 ⟨x2, rfl, hx2, hs3, hg3⟩
      obtain ⟨a, rfl⟩ : ∃ a : Nat, x2 = a := ⟨x2.toNat, by omega⟩
      have hgr2 := grown_trans hgr hg3
      have hown2 := own_keep hown hg3 hlt
      have hz2 := hgr2.size
      have hak : a = k ∨ (a < k ∧ (a : Int) < k) := by omega
      have hyl : ys.length = k := by have := hown.1; simpa using this
      have HZ : Hid (Pm (((ys ++ [(k : Int)]).set k ((ys ++ [(k : Int)])[a]?.getD 0)).set a (k : Int))) := by
        have := HB.out.step (p := a) (by omega)
        unfold lay at this
        rw [hyl] at this
        exact this
      clear hyl
      have hs4 := hs3.after (show Ext w2 (w2.alloc (.cells #[.int .i64 k] 2)) from (by with_reducible (repeat (first | exact Ext.refl _ | apply Ext.drewN | apply Ext.drew | apply Ext.alloc | (refine Ext.set ?_ (by first | (simp; done) | (simp; omega) | omega) _) | (refine Ext.trans ?_ (by assumption))))))
      have hgr3 := grown_new hgr2 (.cells #[.int .i64 k] 2)
      rcases hak with rfl | ⟨hak, haki⟩
      · go_wp2_with (first | (at_builtin; refine appL elInt (by omega) rfl _ _ Tryz.underlying24 rfl rfl (own_ext hown2 ((Ext.refl _).alloc _)) (by simp; omega) (by omega) rfl (heap_alloc_new _ _) (ys := [_]) (by rfl) (by rfl) ?_; intro v' w3 hown3 hg4; obtain ⟨g1, c1, hv1, hg1a, hg1b⟩ := World.ownsRow.form hown3 (by omega); subst hv1; obtain ⟨hcA, hfA⟩ := own_cell hown3 (p := a) (by omega)))
        go_roundw
        case rel => exact ⟨a + 1, _, by omega, by go_num, own_store (own_store hown3 _ _) _ _, HZ, ((hs4.own hg4 (fun b hb => Nat.lt_of_lt_of_le hlt (World.ownsRow.lt hown2 b hb).1)).put (by show g < g1; omega) _).put (by show g < g1; omega) _, grown_put (grown_put (grown_own hgr3 hg4 (fun b hb => (World.ownsRow.lt hown2 b hb).1)) (by show w.heap.size ≤ g1; omega) _) (by show w.heap.size ≤ g1; omega) _⟩
        case measure => simp [intOf]; omega
      · go_wp2_with (first | (at_builtin; refine appL elInt (by omega) rfl _ _ Tryz.underlying24 rfl rfl (own_ext hown2 ((Ext.refl _).alloc _)) (by simp; omega) (by omega) rfl (heap_alloc_new _ _) (ys := [_]) (by rfl) (by rfl) ?_; intro v' w3 hown3 hg4; obtain ⟨g1, c1, hv1, hg1a, hg1b⟩ := World.ownsRow.form hown3 (by omega); subst hv1; obtain ⟨hcA, hfA⟩ := own_cell hown3 (p := a) (by omega); obtain ⟨hcK, hfK⟩ := own_cell hown3 (p := k) (by omega)))
        go_roundw
        case rel => exact ⟨k + 1, _, by omega, by go_num, own_store (own_store hown3 _ _) _ _, HZ, ((hs4.own hg4 (fun b hb => Nat.lt_of_lt_of_le hlt (World.ownsRow.lt hown2 b hb).1)).put (by show g < g1; omega) _).put (by show g < g1; omega) _, grown_put (grown_put (grown_own hgr3 hg4 (fun b hb => (World.ownsRow.lt hown2 b hb).1)) (by show w.heap.size ≤ g1; omega) _) (by show w.heap.size ≤ g1; omega) _⟩
        case measure => simp [intOf]; omega
    · obtain rfl : k = 2 * N := by omega
      have hyl : ys.length = 2 * N := by have := hown.1; simpa using this
      have HYL := Lib.hid hyl
      clear hyl
      obtain ⟨gl, cl, hvl, hgl1, hgl2⟩ := World.ownsRow.form hown (by omega)
      subst hvl
      have HB := hbd
      clear hbd
      obtain ⟨wo, rfl⟩ : ∃ wo : World, wo = wr := ⟨_, rfl⟩
      have hki : ¬ ((2 * N : Nat) : Int) < 2 * (N : Int) := by omega
      have hmk := fun W => run_make_beatsD N (by omega) W
      have hR0 : RowG (wo.alloc (.cells (madeCells #[.int .i64 0, .bool false, .int .i64 0, .bool false] (N * 4)) 102)) wo.heap.size (wo.heap.size + 1) 102 4 (some ⟨wo.heap.size, 0, none⟩) N N (madeCells #[.int .i64 0, .bool false, .int .i64 0, .bool false] (N * 4)).toList := by
        refine ⟨⟨by simp [size_madeCells], .inr ⟨wo.heap.size, N, madeCells #[.int .i64 0, .bool false, .int .i64 0, .bool false] (N * 4), rfl, Nat.le_refl _, heap_alloc_new _ _, Nat.le_refl _, by unfold maxLen; omega, by simp [size_madeCells], ?_⟩⟩, fun a ha => by cases ha; simp⟩
        exact List.take_of_length_le (by simp [size_madeCells])
      have hX0 : Ext wo (wo.alloc (.cells (madeCells #[.int .i64 0, .bool false, .int .i64 0, .bool false] (N * 4)) 102)) := (Ext.refl _).alloc _
      have hs2' := hsr.after hX0
      have hgr2' := grown_exts hgr hX0
      have hgl : gl < wo.heap.size := hgl2
      have hown1 : CellsI (wo.alloc (.cells (madeCells #[.int .i64 0, .bool false, .int .i64 0, .bool false] (N * 4)) 102)) gl (2 * N) ys := fun i hi => hX0.cell hgl2 (own_cell hown (p := i) hi).1
      have hzr := hgr.size
      clear hX0
      go_wp2
      clear hmk
      go_loopw [10, 11] (fun i _ wy => ∃ (j : Nat) (cs : List Value) (bs : Nat → Bool), j ≤ 2 * N ∧ i = .int .i64 j ∧ RowG wy wo.heap.size (wo.heap.size + 1) 102 4 (some ⟨wo.heap.size, 0, none⟩) N N cs ∧ Hid (LaidS N ys cs bs j) ∧ CellsI wy gl (2 * N) ys ∧ Srd w0 wy g A n c xs (top + 20 + 3 * j) ∧ w.grownBy wy (some g) ∧ wo.heap.size < wy.heap.size) (fun i _ _ => 2 * N - (intOf i).toNat)
      case atStart => exact ⟨0, _, fun _ => false, by omega, rfl, hR0, (fun i hi => absurd hi (by omega)), hown1, hs2'.more (by omega), hgr2', by simp⟩
      case round =>
        obtain ⟨j, cs, bs, hj, rfl, hro, hla, hlo, hsy, hgy, hzy⟩ := hrel
        have HLA := hla
        clear hla hR0 hown1 hs2' hgr2'
        by_cases hjk : j < 2 * N
        rotate_left
        · obtain rfl : j = 2 * N := by omega
          have HF : Hid (DrawnS w0 w g A n c xs (top + 60) (.returned (.slice (some ⟨wo.heap.size, 0, none⟩) N N)) wr) := by
            obtain ⟨ts, h1, h2⟩ := HLA.out.fin hNb HB.out HYL.out (hro.wide hzr (Nat.succ_le_of_lt hzy))
            exact ⟨_, N, _, ts, rfl, hNb, h1, h2, hsy.more (by omega), hgy⟩
          go_wp2
          go_ret
          exact HF.out
        have hji : (j : Int) < 2 * (N : Int) := by omega
        have hcj := hlo j hjk
        have hyb := HB.out.bd j (by rw [HYL.out]; exact hjk)
        rw [HYL.out] at hyb
        obtain ⟨yj, hyj⟩ : ∃ yj, ys[j]?.getD 0 = yj := ⟨_, rfl⟩
        rw [hyj] at hcj hyb
        have HYJ := Lib.hid hyj
        clear hyj
        obtain ⟨p, rfl⟩ : ∃ p : Nat, yj = p := ⟨yj.toNat, by omega⟩
        have w1' : IntKind.i64.wrap ((p : Int) / 2) = (p : Int) / 2 := IntWalk.i64_in _ (by omega)
        have w2' : IntKind.i64.wrap ((j : Int) / 2) = (j : Int) / 2 := IntWalk.i64_in _ (by omega)
        have w3' : IntKind.i64.wrap ((p : Int) / 2 - (j : Int) / 2) = (p : Int) / 2 - (j : Int) / 2 := IntWalk.i64_in _ (by omega)
        have e1 := Int.emod_nonneg ((p : Int) / 2 - (j : Int) / 2) (show (N : Int) ≠ 0 by omega)
        have e2 := Int.emod_lt_of_pos ((p : Int) / 2 - (j : Int) / 2) (show 0 < (N : Int) by omega)
        obtain ⟨r, hr⟩ : ∃ r : Nat, ((p : Int) / 2 - (j : Int) / 2) % (N : Int) = r := ⟨_, (Int.toNat_of_nonneg e1).symm⟩
        rw [hr] at e1 e2
        obtain ⟨cc, hcc⟩ : ∃ cc : Bool, ((p : Int).tmod 2 != (j : Int).tmod 2) = cc := ⟨_, rfl⟩
        have HDT : Hid (∀ b : Bool, (dth N ys b j).1 = (if 2 * (r : Int) = 0 ∧ cc = true ∨ b = true then 2 * (r : Int) + 2 * N else 2 * r) ∧ (dth N ys b j).2 = cc) := fun b => dth_is HYJ.out hr hcc
        have HRW : Hid (IntKind.i64.wrap (IntKind.i64.wrap ((p : Int) / 2) - IntKind.i64.wrap ((j : Int) / 2)) % (N : Int) = r) := by
          show _ = _
          rw [w1', w2', w3', hr]
        clear hr w1' w2' w3' HYJ
        have HCC := Lib.hid hcc
        clear hcc
        have e4 : IntKind.i64.wrap (2 * (r : Int)) = 2 * r := IntWalk.i64_in _ (by omega)
        go_upto_region 14 with fail
        go_cut [11] from 50 to 69 (fun p11 wx => SBx wr (2 * (r : Int)) cc p11 wx)
        case first =>
          go_region_held3 (fun wz => wz.cell? ⟨gl, j, none⟩ = some (.int .i64 (p : Int))) (go_keep)
            (first | (go_at_call 113; (with_reducible refine (l02Mod_is _ _ _ _ (by omega) (by omega) HRW.out).mono ?_); rintro e w' ⟨rfl, rfl⟩))
          all_goals
            rw [HCC.out]
            go_wp2_with fail
            go_meet
            exact ⟨rfl, (by with_reducible (repeat (first | exact Ext.refl _ | apply Ext.drewN | apply Ext.drew | apply Ext.alloc | (refine Ext.set ?_ (by first | (simp; done) | (simp; omega) | omega) _) | (refine Ext.trans ?_ (by assumption))))), heap_alloc_new _ _⟩
        case rest =>
          rename World => wx
          obtain ⟨rfl, hxx, hbb⟩ := hcut
          have hzx := hxx.size
          have hbl : wr.heap.size < wx.heap.size := (Array.getElem?_eq_some_iff.1 hbb).1
          have hrx := hro.ext hxx
          have hlx := hlo.ext (by omega) hxx
          have hsx := hsy.after hxx
          have hgx := grown_exts hgy hxx
          obtain ⟨⟨k0, k1⟩, kf0, kf1⟩ := blkS2 hbb
          clear hro hlo hsy hgy hcj HRW HCC hxx e4
          generalize hvv : 2 * (r : Int) = v at *
          have hvb : 0 ≤ v ∧ v ≤ 4 := by omega
          clear e1 e2 hvv hyb
          obtain ⟨q, hq⟩ : ∃ q : Nat, j = 2 * q ∨ j = 2 * q + 1 := ⟨j / 2, by omega⟩
          have hqN : q < N := by omega
          have hqi : (q : Int) < N := by omega
          have w2' : IntKind.i64.wrap ((j : Int) / 2) = (q : Int) := by rw [show (j : Int) / 2 = q by omega]; exact IntWalk.i64_in _ (by omega)
          have w4' : j / 2 = q := by omega
          have hlen := hrx.len
          by_cases hz : v = 0
          · subst hz
            cases cc
            · skip
              go_wp2_with fail
              (with_reducible refine (one_any 2 w0 _ g A n c xs _ hsx (by omega)).mono ?_)
              rintro e w4 ⟨b, rfl, hos, hg5⟩
              have hz4 := hg5.size
              have hor := hrx.apart hg5 (fun k hk => by cases hk; left; omega)
              have hol := hlx.grown (by omega) (by omega) hg5
              have hog := grown_trans hgx hg5
              have y0 : w4.cell? ⟨wr.heap.size, 0, none⟩ = some (.int .i64 0) := (grown_cell hg5 hbl (by omega) _).trans k0
              have y1 : w4.cell? ⟨wr.heap.size, 1, none⟩ = some (.bool false) := (grown_cell hg5 hbl (by omega) _).trans k1
              have y2 : w4.frozen? ⟨wr.heap.size, 0, none⟩ = false := (grownS_frozen hg5 hbl (by omega) _).trans kf0
              have y3 : w4.frozen? ⟨wr.heap.size, 1, none⟩ = false := (grownS_frozen hg5 hbl (by omega) _).trans kf1
              clear k0 k1 kf0 kf1 hrx hlx hgx hsx hg5 hbb
              cases b
              · have e5 : IntKind.i64.wrap (0 + 2 * (N : Int)) = 0 + 2 * N := IntWalk.i64_in _ (by omega)
                rcases hq with hq | hq
                · have hm : (j : Int).tmod 2 = 0 := by rw [Int.tmod_eq_emod_of_nonneg (by omega)]; omega
                  have HQJ := Lib.hid hq
                  clear hq
                  obtain ⟨d0, f0⟩ := hor.cellAt (p := q * 4) (by omega)
                  obtain ⟨d1, f1⟩ := hor.cellAt (p := q * 4 + 1) (by omega)
                  rw [List.getElem?_eq_getElem (by omega)] at d0 d1
                  generalize cs[q * 4]'(by omega) = u0 at d0
                  generalize cs[q * 4 + 1]'(by omega) = u1 at d1
                  have HN : Hid (LaidS N ys ((cs.set (q * 4) (.int .i64 (0))).set (q * 4 + 1) (.bool false)) (fun i => if i = j then false else bs i) (j + 1)) := by
                    have h1 := HLA.out.put (by rw [hlen]; omega) false (v := 0) (c := false) (by rw [(HDT.out false).1]; simp) (by rw [(HDT.out false).2])
                    rw [show 2 * j = q * 4 by have := HQJ.out; omega] at h1
                    exact h1
                  clear HLA HDT
                  go_wp2
                  go_roundw
                  case rel => exact ⟨j + 1, _, _, by omega, by go_num, ((hor).store _ _).store _ _, HN, ((hol).put (b := wo.heap.size) (by omega) _).put (b := wo.heap.size) (by omega) _, (((hos).put (by show g < wo.heap.size; omega) _).put (by show g < wo.heap.size; omega) _).more (by omega), grown_put (grown_put hog (by show w.heap.size ≤ wo.heap.size; omega) _) (by show w.heap.size ≤ wo.heap.size; omega) _, by simp [World.setCell]; omega⟩
                  case measure => simp [intOf]; omega
                · have hm : (j : Int).tmod 2 = 1 := by rw [Int.tmod_eq_emod_of_nonneg (by omega)]; omega
                  have HQJ := Lib.hid hq
                  clear hq
                  obtain ⟨d0, f0⟩ := hor.cellAt (p := q * 4 + 2) (by omega)
                  obtain ⟨d1, f1⟩ := hor.cellAt (p := q * 4 + 2 + 1) (by omega)
                  rw [List.getElem?_eq_getElem (by omega)] at d0 d1
                  generalize cs[q * 4 + 2]'(by omega) = u0 at d0
                  generalize cs[q * 4 + 2 + 1]'(by omega) = u1 at d1
                  have HN : Hid (LaidS N ys ((cs.set (q * 4 + 2) (.int .i64 (0))).set (q * 4 + 2 + 1) (.bool false)) (fun i => if i = j then false else bs i) (j + 1)) := by
                    have h1 := HLA.out.put (by rw [hlen]; omega) false (v := 0) (c := false) (by rw [(HDT.out false).1]; simp) (by rw [(HDT.out false).2])
                    rw [show 2 * j = q * 4 + 2 by have := HQJ.out; omega] at h1
                    exact h1
                  clear HLA HDT
                  go_wp2
                  go_roundw
                  case rel => exact ⟨j + 1, _, _, by omega, by go_num, ((hor).store _ _).store _ _, HN, ((hol).put (b := wo.heap.size) (by omega) _).put (b := wo.heap.size) (by omega) _, (((hos).put (by show g < wo.heap.size; omega) _).put (by show g < wo.heap.size; omega) _).more (by omega), grown_put (grown_put hog (by show w.heap.size ≤ wo.heap.size; omega) _) (by show w.heap.size ≤ wo.heap.size; omega) _, by simp [World.setCell]; omega⟩
                  case measure => simp [intOf]; omega
              · have e5 : IntKind.i64.wrap (0 + 2 * (N : Int)) = 0 + 2 * N := IntWalk.i64_in _ (by omega)
                rcases hq with hq | hq
                · have hm : (j : Int).tmod 2 = 0 := by rw [Int.tmod_eq_emod_of_nonneg (by omega)]; omega
                  have HQJ := Lib.hid hq
                  clear hq
                  obtain ⟨d0, f0⟩ := hor.cellAt (p := q * 4) (by omega)
                  obtain ⟨d1, f1⟩ := hor.cellAt (p := q * 4 + 1) (by omega)
                  rw [List.getElem?_eq_getElem (by omega)] at d0 d1
                  generalize cs[q * 4]'(by omega) = u0 at d0
                  generalize cs[q * 4 + 1]'(by omega) = u1 at d1
                  have HN : Hid (LaidS N ys ((cs.set (q * 4) (.int .i64 (2 * (N : Int)))).set (q * 4 + 1) (.bool false)) (fun i => if i = j then true else bs i) (j + 1)) := by
                    have h1 := HLA.out.put (by rw [hlen]; omega) true (v := 2 * (N : Int)) (c := false) (by rw [(HDT.out true).1]; simp) (by rw [(HDT.out true).2])
                    rw [show 2 * j = q * 4 by have := HQJ.out; omega] at h1
                    exact h1
                  clear HLA HDT
                  go_wp2
                  go_roundw
                  case rel => exact ⟨j + 1, _, _, by omega, by go_num, (((hor.keep (p := ⟨wr.heap.size, 0, none⟩) (.inr (by show wo.heap.size + 1 ≤ wr.heap.size; omega)) _)).store _ _).store _ _, HN, (((hol.put (b := wr.heap.size) (by omega) _)).put (b := wo.heap.size) (by omega) _).put (b := wo.heap.size) (by omega) _, ((((hos.put (p := ⟨wr.heap.size, 0, none⟩) (by show g < wr.heap.size; omega) _)).put (by show g < wo.heap.size; omega) _).put (by show g < wo.heap.size; omega) _).more (by omega), grown_put (grown_put (grown_put hog (p := ⟨wr.heap.size, 0, none⟩) (by show w.heap.size ≤ wr.heap.size; omega) _) (by show w.heap.size ≤ wo.heap.size; omega) _) (by show w.heap.size ≤ wo.heap.size; omega) _, by simp [World.setCell]; omega⟩
                  case measure => simp [intOf]; omega
                · have hm : (j : Int).tmod 2 = 1 := by rw [Int.tmod_eq_emod_of_nonneg (by omega)]; omega
                  have HQJ := Lib.hid hq
                  clear hq
                  obtain ⟨d0, f0⟩ := hor.cellAt (p := q * 4 + 2) (by omega)
                  obtain ⟨d1, f1⟩ := hor.cellAt (p := q * 4 + 2 + 1) (by omega)
                  rw [List.getElem?_eq_getElem (by omega)] at d0 d1
                  generalize cs[q * 4 + 2]'(by omega) = u0 at d0
                  generalize cs[q * 4 + 2 + 1]'(by omega) = u1 at d1
                  have HN : Hid (LaidS N ys ((cs.set (q * 4 + 2) (.int .i64 (2 * (N : Int)))).set (q * 4 + 2 + 1) (.bool false)) (fun i => if i = j then true else bs i) (j + 1)) := by
                    have h1 := HLA.out.put (by rw [hlen]; omega) true (v := 2 * (N : Int)) (c := false) (by rw [(HDT.out true).1]; simp) (by rw [(HDT.out true).2])
                    rw [show 2 * j = q * 4 + 2 by have := HQJ.out; omega] at h1
                    exact h1
                  clear HLA HDT
                  go_wp2
                  go_roundw
                  case rel => exact ⟨j + 1, _, _, by omega, by go_num, (((hor.keep (p := ⟨wr.heap.size, 0, none⟩) (.inr (by show wo.heap.size + 1 ≤ wr.heap.size; omega)) _)).store _ _).store _ _, HN, (((hol.put (b := wr.heap.size) (by omega) _)).put (b := wo.heap.size) (by omega) _).put (b := wo.heap.size) (by omega) _, ((((hos.put (p := ⟨wr.heap.size, 0, none⟩) (by show g < wr.heap.size; omega) _)).put (by show g < wo.heap.size; omega) _).put (by show g < wo.heap.size; omega) _).more (by omega), grown_put (grown_put (grown_put hog (p := ⟨wr.heap.size, 0, none⟩) (by show w.heap.size ≤ wr.heap.size; omega) _) (by show w.heap.size ≤ wo.heap.size; omega) _) (by show w.heap.size ≤ wo.heap.size; omega) _, by simp [World.setCell]; omega⟩
                  case measure => simp [intOf]; omega
            · have e5 : IntKind.i64.wrap (0 + 2 * (N : Int)) = 0 + 2 * N := IntWalk.i64_in _ (by omega)
              have hor := hrx
              have hol := hlx
              have hos := hsx
              have hog := hgx
              clear hrx hlx hsx hgx hbb
              rcases hq with hq | hq
              · have hm : (j : Int).tmod 2 = 0 := by rw [Int.tmod_eq_emod_of_nonneg (by omega)]; omega
                have HQJ := Lib.hid hq
                clear hq
                obtain ⟨d0, f0⟩ := hor.cellAt (p := q * 4) (by omega)
                obtain ⟨d1, f1⟩ := hor.cellAt (p := q * 4 + 1) (by omega)
                rw [List.getElem?_eq_getElem (by omega)] at d0 d1
                generalize cs[q * 4]'(by omega) = u0 at d0
                generalize cs[q * 4 + 1]'(by omega) = u1 at d1
                have HN : Hid (LaidS N ys ((cs.set (q * 4) (.int .i64 (2 * (N : Int)))).set (q * 4 + 1) (.bool true)) (fun i => if i = j then false else bs i) (j + 1)) := by
                  have h1 := HLA.out.put (by rw [hlen]; omega) false (v := 2 * (N : Int)) (c := true) (by rw [(HDT.out false).1]; simp) (by rw [(HDT.out false).2])
                  rw [show 2 * j = q * 4 by have := HQJ.out; omega] at h1
                  exact h1
                clear HLA HDT
                go_wp2
                go_roundw
                case rel => exact ⟨j + 1, _, _, by omega, by go_num, (((hor.keep (p := ⟨wr.heap.size, 0, none⟩) (.inr (by show wo.heap.size + 1 ≤ wr.heap.size; omega)) _)).store _ _).store _ _, HN, (((hol.put (b := wr.heap.size) (by omega) _)).put (b := wo.heap.size) (by omega) _).put (b := wo.heap.size) (by omega) _, ((((hos.put (p := ⟨wr.heap.size, 0, none⟩) (by show g < wr.heap.size; omega) _)).put (by show g < wo.heap.size; omega) _).put (by show g < wo.heap.size; omega) _).more (by omega), grown_put (grown_put (grown_put hog (p := ⟨wr.heap.size, 0, none⟩) (by show w.heap.size ≤ wr.heap.size; omega) _) (by show w.heap.size ≤ wo.heap.size; omega) _) (by show w.heap.size ≤ wo.heap.size; omega) _, by simp [World.setCell]; omega⟩
                case measure => simp [intOf]; omega
              · have hm : (j : Int).tmod 2 = 1 := by rw [Int.tmod_eq_emod_of_nonneg (by omega)]; omega
                have HQJ := Lib.hid hq
                clear hq
                obtain ⟨d0, f0⟩ := hor.cellAt (p := q * 4 + 2) (by omega)
                obtain ⟨d1, f1⟩ := hor.cellAt (p := q * 4 + 2 + 1) (by omega)
                rw [List.getElem?_eq_getElem (by omega)] at d0 d1
                generalize cs[q * 4 + 2]'(by omega) = u0 at d0
                generalize cs[q * 4 + 2 + 1]'(by omega) = u1 at d1
                have HN : Hid (LaidS N ys ((cs.set (q * 4 + 2) (.int .i64 (2 * (N : Int)))).set (q * 4 + 2 + 1) (.bool true)) (fun i => if i = j then false else bs i) (j + 1)) := by
                  have h1 := HLA.out.put (by rw [hlen]; omega) false (v := 2 * (N : Int)) (c := true) (by rw [(HDT.out false).1]; simp) (by rw [(HDT.out false).2])
                  rw [show 2 * j = q * 4 + 2 by have := HQJ.out; omega] at h1
                  exact h1
                clear HLA HDT
                go_wp2
                go_roundw
                case rel => exact ⟨j + 1, _, _, by omega, by go_num, (((hor.keep (p := ⟨wr.heap.size, 0, none⟩) (.inr (by show wo.heap.size + 1 ≤ wr.heap.size; omega)) _)).store _ _).store _ _, HN, (((hol.put (b := wr.heap.size) (by omega) _)).put (b := wo.heap.size) (by omega) _).put (b := wo.heap.size) (by omega) _, ((((hos.put (p := ⟨wr.heap.size, 0, none⟩) (by show g < wr.heap.size; omega) _)).put (by show g < wo.heap.size; omega) _).put (by show g < wo.heap.size; omega) _).more (by omega), grown_put (grown_put (grown_put hog (p := ⟨wr.heap.size, 0, none⟩) (by show w.heap.size ≤ wr.heap.size; omega) _) (by show w.heap.size ≤ wo.heap.size; omega) _) (by show w.heap.size ≤ wo.heap.size; omega) _, by simp [World.setCell]; omega⟩
                case measure => simp [intOf]; omega
          · have hzb : (v == 0) = false := beq_eq_false_iff_ne.2 hz
            go_wp2_with fail
            (with_reducible refine (one_any 2 w0 _ g A n c xs _ hsx (by omega)).mono ?_)
            rintro e w4 ⟨b, rfl, hos, hg5⟩
            have hz4 := hg5.size
            have hor := hrx.apart hg5 (fun k hk => by cases hk; left; omega)
            have hol := hlx.grown (by omega) (by omega) hg5
            have hog := grown_trans hgx hg5
            have y0 : w4.cell? ⟨wr.heap.size, 0, none⟩ = some (.int .i64 v) := (grown_cell hg5 hbl (by omega) _).trans k0
            have y1 : w4.cell? ⟨wr.heap.size, 1, none⟩ = some (.bool cc) := (grown_cell hg5 hbl (by omega) _).trans k1
            have y2 : w4.frozen? ⟨wr.heap.size, 0, none⟩ = false := (grownS_frozen hg5 hbl (by omega) _).trans kf0
            have y3 : w4.frozen? ⟨wr.heap.size, 1, none⟩ = false := (grownS_frozen hg5 hbl (by omega) _).trans kf1
            clear k0 k1 kf0 kf1 hrx hlx hgx hsx hg5 hbb
            cases b
            · have e5 : IntKind.i64.wrap (v + 2 * (N : Int)) = v + 2 * N := IntWalk.i64_in _ (by omega)
              rcases hq with hq | hq
              · have hm : (j : Int).tmod 2 = 0 := by rw [Int.tmod_eq_emod_of_nonneg (by omega)]; omega
                have HQJ := Lib.hid hq
                clear hq
                obtain ⟨d0, f0⟩ := hor.cellAt (p := q * 4) (by omega)
                obtain ⟨d1, f1⟩ := hor.cellAt (p := q * 4 + 1) (by omega)
                rw [List.getElem?_eq_getElem (by omega)] at d0 d1
                generalize cs[q * 4]'(by omega) = u0 at d0
                generalize cs[q * 4 + 1]'(by omega) = u1 at d1
                have HN : Hid (LaidS N ys ((cs.set (q * 4) (.int .i64 (v))).set (q * 4 + 1) (.bool cc)) (fun i => if i = j then false else bs i) (j + 1)) := by
                  have h1 := HLA.out.put (by rw [hlen]; omega) false (v := v) (c := cc) (by rw [(HDT.out false).1]; simp [hz]) (by rw [(HDT.out false).2])
                  rw [show 2 * j = q * 4 by have := HQJ.out; omega] at h1
                  exact h1
                clear HLA HDT
                go_wp2
                go_roundw
                case rel => exact ⟨j + 1, _, _, by omega, by go_num, ((hor).store _ _).store _ _, HN, ((hol).put (b := wo.heap.size) (by omega) _).put (b := wo.heap.size) (by omega) _, (((hos).put (by show g < wo.heap.size; omega) _).put (by show g < wo.heap.size; omega) _).more (by omega), grown_put (grown_put hog (by show w.heap.size ≤ wo.heap.size; omega) _) (by show w.heap.size ≤ wo.heap.size; omega) _, by simp [World.setCell]; omega⟩
                case measure => simp [intOf]; omega
              · have hm : (j : Int).tmod 2 = 1 := by rw [Int.tmod_eq_emod_of_nonneg (by omega)]; omega
                have HQJ := Lib.hid hq
                clear hq
                obtain ⟨d0, f0⟩ := hor.cellAt (p := q * 4 + 2) (by omega)
                obtain ⟨d1, f1⟩ := hor.cellAt (p := q * 4 + 2 + 1) (by omega)
                rw [List.getElem?_eq_getElem (by omega)] at d0 d1
                generalize cs[q * 4 + 2]'(by omega) = u0 at d0
                generalize cs[q * 4 + 2 + 1]'(by omega) = u1 at d1
                have HN : Hid (LaidS N ys ((cs.set (q * 4 + 2) (.int .i64 (v))).set (q * 4 + 2 + 1) (.bool cc)) (fun i => if i = j then false else bs i) (j + 1)) := by
                  have h1 := HLA.out.put (by rw [hlen]; omega) false (v := v) (c := cc) (by rw [(HDT.out false).1]; simp [hz]) (by rw [(HDT.out false).2])
                  rw [show 2 * j = q * 4 + 2 by have := HQJ.out; omega] at h1
                  exact h1
                clear HLA HDT
                go_wp2
                go_roundw
                case rel => exact ⟨j + 1, _, _, by omega, by go_num, ((hor).store _ _).store _ _, HN, ((hol).put (b := wo.heap.size) (by omega) _).put (b := wo.heap.size) (by omega) _, (((hos).put (by show g < wo.heap.size; omega) _).put (by show g < wo.heap.size; omega) _).more (by omega), grown_put (grown_put hog (by show w.heap.size ≤ wo.heap.size; omega) _) (by show w.heap.size ≤ wo.heap.size; omega) _, by simp [World.setCell]; omega⟩
                case measure => simp [intOf]; omega
            · have e5 : IntKind.i64.wrap (v + 2 * (N : Int)) = v + 2 * N := IntWalk.i64_in _ (by omega)
              rcases hq with hq | hq
              · have hm : (j : Int).tmod 2 = 0 := by rw [Int.tmod_eq_emod_of_nonneg (by omega)]; omega
                have HQJ := Lib.hid hq
                clear hq
                obtain ⟨d0, f0⟩ := hor.cellAt (p := q * 4) (by omega)
                obtain ⟨d1, f1⟩ := hor.cellAt (p := q * 4 + 1) (by omega)
                rw [List.getElem?_eq_getElem (by omega)] at d0 d1
                generalize cs[q * 4]'(by omega) = u0 at d0
                generalize cs[q * 4 + 1]'(by omega) = u1 at d1
                have HN : Hid (LaidS N ys ((cs.set (q * 4) (.int .i64 (v + 2 * N))).set (q * 4 + 1) (.bool cc)) (fun i => if i = j then true else bs i) (j + 1)) := by
                  have h1 := HLA.out.put (by rw [hlen]; omega) true (v := v + 2 * N) (c := cc) (by rw [(HDT.out true).1]; simp [hz]) (by rw [(HDT.out true).2])
                  rw [show 2 * j = q * 4 by have := HQJ.out; omega] at h1
                  exact h1
                clear HLA HDT
                go_wp2
                go_roundw
                case rel => exact ⟨j + 1, _, _, by omega, by go_num, (((hor.keep (p := ⟨wr.heap.size, 0, none⟩) (.inr (by show wo.heap.size + 1 ≤ wr.heap.size; omega)) _)).store _ _).store _ _, HN, (((hol.put (b := wr.heap.size) (by omega) _)).put (b := wo.heap.size) (by omega) _).put (b := wo.heap.size) (by omega) _, ((((hos.put (p := ⟨wr.heap.size, 0, none⟩) (by show g < wr.heap.size; omega) _)).put (by show g < wo.heap.size; omega) _).put (by show g < wo.heap.size; omega) _).more (by omega), grown_put (grown_put (grown_put hog (p := ⟨wr.heap.size, 0, none⟩) (by show w.heap.size ≤ wr.heap.size; omega) _) (by show w.heap.size ≤ wo.heap.size; omega) _) (by show w.heap.size ≤ wo.heap.size; omega) _, by simp [World.setCell]; omega⟩
                case measure => simp [intOf]; omega
              · have hm : (j : Int).tmod 2 = 1 := by rw [Int.tmod_eq_emod_of_nonneg (by omega)]; omega
                have HQJ := Lib.hid hq
                clear hq
                obtain ⟨d0, f0⟩ := hor.cellAt (p := q * 4 + 2) (by omega)
                obtain ⟨d1, f1⟩ := hor.cellAt (p := q * 4 + 2 + 1) (by omega)
                rw [List.getElem?_eq_getElem (by omega)] at d0 d1
                generalize cs[q * 4 + 2]'(by omega) = u0 at d0
                generalize cs[q * 4 + 2 + 1]'(by omega) = u1 at d1
                have HN : Hid (LaidS N ys ((cs.set (q * 4 + 2) (.int .i64 (v + 2 * N))).set (q * 4 + 2 + 1) (.bool cc)) (fun i => if i = j then true else bs i) (j + 1)) := by
                  have h1 := HLA.out.put (by rw [hlen]; omega) true (v := v + 2 * N) (c := cc) (by rw [(HDT.out true).1]; simp [hz]) (by rw [(HDT.out true).2])
                  rw [show 2 * j = q * 4 + 2 by have := HQJ.out; omega] at h1
                  exact h1
                clear HLA HDT
                go_wp2
                go_roundw
                case rel => exact ⟨j + 1, _, _, by omega, by go_num, (((hor.keep (p := ⟨wr.heap.size, 0, none⟩) (.inr (by show wo.heap.size + 1 ≤ wr.heap.size; omega)) _)).store _ _).store _ _, HN, (((hol.put (b := wr.heap.size) (by omega) _)).put (b := wo.heap.size) (by omega) _).put (b := wo.heap.size) (by omega) _, ((((hos.put (p := ⟨wr.heap.size, 0, none⟩) (by show g < wr.heap.size; omega) _)).put (by show g < wo.heap.size; omega) _).put (by show g < wo.heap.size; omega) _).more (by omega), grown_put (grown_put (grown_put hog (p := ⟨wr.heap.size, 0, none⟩) (by show w.heap.size ≤ wr.heap.size; omega) _) (by show w.heap.size ≤ wo.heap.size; omega) _) (by show w.heap.size ≤ wo.heap.size; omega) _, by simp [World.setCell]; omega⟩
                case measure => simp [intOf]; omega
end Go.Proofs.YtbihbhdaenhdoaaGreat
