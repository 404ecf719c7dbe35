/- Whether a notation holds nothing but what is of its kind: isEmptyBut. No condition but the stated bounds. (tools/gebt.py) -/
import Derived.Test.YtbihbhdaenhdoaaGreatNtn
namespace Go.Proofs.YtbihbhdaenhdoaaGreat
set_option linter.unusedVariables false
set_option linter.unusedSimpArgs false
open Go.ChangeShapes Go.WideShapes Go.ChangeAt Go.RowKit Go.Joins Go.Deep

/-- Nothing but what is of the kind. -/
def ebt (k : Int) (na nb ns np : Nat) : Bool := decide ((k = 1 ∨ na = 0) ∧ (k = 2 ∨ nb = 0) ∧ (k = 3 ∨ ns = 0) ∧ (k = 4 ∨ np = 0))
set_option maxHeartbeats 4000000 in
theorem isEmptyBut_any (k : Int) (A : Option Addr) (na ca : Nat) (B : Option Addr) (nb cb : Nat) (S : Option Addr) (ns cs : Nat) (P : Option Addr) (np cp : Nat) (Q : Option Addr) (nq cq : Nat) (w : World) (hp : np ≤ 1048576) (hq : nq ≤ 1048576) :
    Calls Tryz.prog 51 #[.agg #[.int .i64 k, .slice A na ca, .slice B nb cb, .slice S ns cs, .slice P np cp, .slice Q nq cq]] w fun e w' => e = .returned (.bool (ebt k na nb ns (np + nq))) ∧ Ext w w' := by
  by_cases k1 : k = 1
  · subst k1
    by_cases zb : nb = 0
    · have izb : ((nb : Nat) : Int) = 0 := by omega
      by_cases zs : ns = 0
      · have izs : ((ns : Nat) : Int) = 0 := by omega
        by_cases zp : np + nq = 0
        · have izp : ((np : Int) + (nq : Int)) = 0 := by omega
          have HF : Hid (ebt 1 na nb ns (np + nq) = true) := by show _ = _; unfold ebt; first | exact decide_eq_true (by omega) | exact decide_eq_false (by omega)
          rw [HF.out]
          go_enter Tryz.func51, Tryz.ntmps51
          go_wp2
          go_ret
          first | exact ⟨rfl, (by with_reducible (repeat (first | exact Ext.refl _ | apply Ext.drewN | apply Ext.drew | apply Ext.alloc | (refine Ext.set ?_ (by first | (simp; done) | (simp; omega) | omega) _) | (refine Ext.trans ?_ (by assumption)))))⟩ | exact ⟨ret_bool (beq_eq_false_iff_ne.2 izp), (by with_reducible (repeat (first | exact Ext.refl _ | apply Ext.drewN | apply Ext.drew | apply Ext.alloc | (refine Ext.set ?_ (by first | (simp; done) | (simp; omega) | omega) _) | (refine Ext.trans ?_ (by assumption)))))⟩ | exact ⟨ret_bool (by rw [beq_eq_false_iff_ne.2 izp, beq_eq_false_iff_ne.2 k4]; rfl), (by with_reducible (repeat (first | exact Ext.refl _ | apply Ext.drewN | apply Ext.drew | apply Ext.alloc | (refine Ext.set ?_ (by first | (simp; done) | (simp; omega) | omega) _) | (refine Ext.trans ?_ (by assumption)))))⟩
        · have izp : ¬ ((np : Int) + (nq : Int)) = 0 := by omega
          have HF : Hid (ebt 1 na nb ns (np + nq) = false) := by show _ = _; unfold ebt; first | exact decide_eq_true (by omega) | exact decide_eq_false (by omega)
          rw [HF.out]
          go_enter Tryz.func51, Tryz.ntmps51
          go_wp2
          go_ret
          first | exact ⟨rfl, (by with_reducible (repeat (first | exact Ext.refl _ | apply Ext.drewN | apply Ext.drew | apply Ext.alloc | (refine Ext.set ?_ (by first | (simp; done) | (simp; omega) | omega) _) | (refine Ext.trans ?_ (by assumption)))))⟩ | exact ⟨ret_bool (beq_eq_false_iff_ne.2 izp), (by with_reducible (repeat (first | exact Ext.refl _ | apply Ext.drewN | apply Ext.drew | apply Ext.alloc | (refine Ext.set ?_ (by first | (simp; done) | (simp; omega) | omega) _) | (refine Ext.trans ?_ (by assumption)))))⟩ | exact ⟨ret_bool (by rw [beq_eq_false_iff_ne.2 izp, beq_eq_false_iff_ne.2 k4]; rfl), (by with_reducible (repeat (first | exact Ext.refl _ | apply Ext.drewN | apply Ext.drew | apply Ext.alloc | (refine Ext.set ?_ (by first | (simp; done) | (simp; omega) | omega) _) | (refine Ext.trans ?_ (by assumption)))))⟩
      · have izs : ¬ ((ns : Nat) : Int) = 0 := by omega
        have HF : Hid (ebt 1 na nb ns (np + nq) = false) := by show _ = _; unfold ebt; first | exact decide_eq_true (by omega) | exact decide_eq_false (by omega)
        rw [HF.out]
        go_enter Tryz.func51, Tryz.ntmps51
        go_wp2
        go_ret
        first | exact ⟨rfl, (by with_reducible (repeat (first | exact Ext.refl _ | apply Ext.drewN | apply Ext.drew | apply Ext.alloc | (refine Ext.set ?_ (by first | (simp; done) | (simp; omega) | omega) _) | (refine Ext.trans ?_ (by assumption)))))⟩ | exact ⟨ret_bool (beq_eq_false_iff_ne.2 izp), (by with_reducible (repeat (first | exact Ext.refl _ | apply Ext.drewN | apply Ext.drew | apply Ext.alloc | (refine Ext.set ?_ (by first | (simp; done) | (simp; omega) | omega) _) | (refine Ext.trans ?_ (by assumption)))))⟩ | exact ⟨ret_bool (by rw [beq_eq_false_iff_ne.2 izp, beq_eq_false_iff_ne.2 k4]; rfl), (by with_reducible (repeat (first | exact Ext.refl _ | apply Ext.drewN | apply Ext.drew | apply Ext.alloc | (refine Ext.set ?_ (by first | (simp; done) | (simp; omega) | omega) _) | (refine Ext.trans ?_ (by assumption)))))⟩
    · have izb : ¬ ((nb : Nat) : Int) = 0 := by omega
      have HF : Hid (ebt 1 na nb ns (np + nq) = false) := by show _ = _; unfold ebt; first | exact decide_eq_true (by omega) | exact decide_eq_false (by omega)
      rw [HF.out]
      go_enter Tryz.func51, Tryz.ntmps51
      go_wp2
      go_ret
      first | exact ⟨rfl, (by with_reducible (repeat (first | exact Ext.refl _ | apply Ext.drewN | apply Ext.drew | apply Ext.alloc | (refine Ext.set ?_ (by first | (simp; done) | (simp; omega) | omega) _) | (refine Ext.trans ?_ (by assumption)))))⟩ | exact ⟨ret_bool (beq_eq_false_iff_ne.2 izp), (by with_reducible (repeat (first | exact Ext.refl _ | apply Ext.drewN | apply Ext.drew | apply Ext.alloc | (refine Ext.set ?_ (by first | (simp; done) | (simp; omega) | omega) _) | (refine Ext.trans ?_ (by assumption)))))⟩ | exact ⟨ret_bool (by rw [beq_eq_false_iff_ne.2 izp, beq_eq_false_iff_ne.2 k4]; rfl), (by with_reducible (repeat (first | exact Ext.refl _ | apply Ext.drewN | apply Ext.drew | apply Ext.alloc | (refine Ext.set ?_ (by first | (simp; done) | (simp; omega) | omega) _) | (refine Ext.trans ?_ (by assumption)))))⟩
  by_cases k2 : k = 2
  · subst k2
    by_cases za : na = 0
    · have iza : ((na : Nat) : Int) = 0 := by omega
      by_cases zs : ns = 0
      · have izs : ((ns : Nat) : Int) = 0 := by omega
        by_cases zp : np + nq = 0
        · have izp : ((np : Int) + (nq : Int)) = 0 := by omega
          have HF : Hid (ebt 2 na nb ns (np + nq) = true) := by show _ = _; unfold ebt; first | exact decide_eq_true (by omega) | exact decide_eq_false (by omega)
          rw [HF.out]
          go_enter Tryz.func51, Tryz.ntmps51
          go_wp2
          go_ret
          first | exact ⟨rfl, (by with_reducible (repeat (first | exact Ext.refl _ | apply Ext.drewN | apply Ext.drew | apply Ext.alloc | (refine Ext.set ?_ (by first | (simp; done) | (simp; omega) | omega) _) | (refine Ext.trans ?_ (by assumption)))))⟩ | exact ⟨ret_bool (beq_eq_false_iff_ne.2 izp), (by with_reducible (repeat (first | exact Ext.refl _ | apply Ext.drewN | apply Ext.drew | apply Ext.alloc | (refine Ext.set ?_ (by first | (simp; done) | (simp; omega) | omega) _) | (refine Ext.trans ?_ (by assumption)))))⟩ | exact ⟨ret_bool (by rw [beq_eq_false_iff_ne.2 izp, beq_eq_false_iff_ne.2 k4]; rfl), (by with_reducible (repeat (first | exact Ext.refl _ | apply Ext.drewN | apply Ext.drew | apply Ext.alloc | (refine Ext.set ?_ (by first | (simp; done) | (simp; omega) | omega) _) | (refine Ext.trans ?_ (by assumption)))))⟩
        · have izp : ¬ ((np : Int) + (nq : Int)) = 0 := by omega
          have HF : Hid (ebt 2 na nb ns (np + nq) = false) := by show _ = _; unfold ebt; first | exact decide_eq_true (by omega) | exact decide_eq_false (by omega)
          rw [HF.out]
          go_enter Tryz.func51, Tryz.ntmps51
          go_wp2
          go_ret
          first | exact ⟨rfl, (by with_reducible (repeat (first | exact Ext.refl _ | apply Ext.drewN | apply Ext.drew | apply Ext.alloc | (refine Ext.set ?_ (by first | (simp; done) | (simp; omega) | omega) _) | (refine Ext.trans ?_ (by assumption)))))⟩ | exact ⟨ret_bool (beq_eq_false_iff_ne.2 izp), (by with_reducible (repeat (first | exact Ext.refl _ | apply Ext.drewN | apply Ext.drew | apply Ext.alloc | (refine Ext.set ?_ (by first | (simp; done) | (simp; omega) | omega) _) | (refine Ext.trans ?_ (by assumption)))))⟩ | exact ⟨ret_bool (by rw [beq_eq_false_iff_ne.2 izp, beq_eq_false_iff_ne.2 k4]; rfl), (by with_reducible (repeat (first | exact Ext.refl _ | apply Ext.drewN | apply Ext.drew | apply Ext.alloc | (refine Ext.set ?_ (by first | (simp; done) | (simp; omega) | omega) _) | (refine Ext.trans ?_ (by assumption)))))⟩
      · have izs : ¬ ((ns : Nat) : Int) = 0 := by omega
        have HF : Hid (ebt 2 na nb ns (np + nq) = false) := by show _ = _; unfold ebt; first | exact decide_eq_true (by omega) | exact decide_eq_false (by omega)
        rw [HF.out]
        go_enter Tryz.func51, Tryz.ntmps51
        go_wp2
        go_ret
        first | exact ⟨rfl, (by with_reducible (repeat (first | exact Ext.refl _ | apply Ext.drewN | apply Ext.drew | apply Ext.alloc | (refine Ext.set ?_ (by first | (simp; done) | (simp; omega) | omega) _) | (refine Ext.trans ?_ (by assumption)))))⟩ | exact ⟨ret_bool (beq_eq_false_iff_ne.2 izp), (by with_reducible (repeat (first | exact Ext.refl _ | apply Ext.drewN | apply Ext.drew | apply Ext.alloc | (refine Ext.set ?_ (by first | (simp; done) | (simp; omega) | omega) _) | (refine Ext.trans ?_ (by assumption)))))⟩ | exact ⟨ret_bool (by rw [beq_eq_false_iff_ne.2 izp, beq_eq_false_iff_ne.2 k4]; rfl), (by with_reducible (repeat (first | exact Ext.refl _ | apply Ext.drewN | apply Ext.drew | apply Ext.alloc | (refine Ext.set ?_ (by first | (simp; done) | (simp; omega) | omega) _) | (refine Ext.trans ?_ (by assumption)))))⟩
    · have iza : ¬ ((na : Nat) : Int) = 0 := by omega
      have HF : Hid (ebt 2 na nb ns (np + nq) = false) := by show _ = _; unfold ebt; first | exact decide_eq_true (by omega) | exact decide_eq_false (by omega)
      rw [HF.out]
      go_enter Tryz.func51, Tryz.ntmps51
      go_wp2
      go_ret
      first | exact ⟨rfl, (by with_reducible (repeat (first | exact Ext.refl _ | apply Ext.drewN | apply Ext.drew | apply Ext.alloc | (refine Ext.set ?_ (by first | (simp; done) | (simp; omega) | omega) _) | (refine Ext.trans ?_ (by assumption)))))⟩ | exact ⟨ret_bool (beq_eq_false_iff_ne.2 izp), (by with_reducible (repeat (first | exact Ext.refl _ | apply Ext.drewN | apply Ext.drew | apply Ext.alloc | (refine Ext.set ?_ (by first | (simp; done) | (simp; omega) | omega) _) | (refine Ext.trans ?_ (by assumption)))))⟩ | exact ⟨ret_bool (by rw [beq_eq_false_iff_ne.2 izp, beq_eq_false_iff_ne.2 k4]; rfl), (by with_reducible (repeat (first | exact Ext.refl _ | apply Ext.drewN | apply Ext.drew | apply Ext.alloc | (refine Ext.set ?_ (by first | (simp; done) | (simp; omega) | omega) _) | (refine Ext.trans ?_ (by assumption)))))⟩
  by_cases k3 : k = 3
  · subst k3
    by_cases za : na = 0
    · have iza : ((na : Nat) : Int) = 0 := by omega
      by_cases zb : nb = 0
      · have izb : ((nb : Nat) : Int) = 0 := by omega
        by_cases zp : np + nq = 0
        · have izp : ((np : Int) + (nq : Int)) = 0 := by omega
          have HF : Hid (ebt 3 na nb ns (np + nq) = true) := by show _ = _; unfold ebt; first | exact decide_eq_true (by omega) | exact decide_eq_false (by omega)
          rw [HF.out]
          go_enter Tryz.func51, Tryz.ntmps51
          go_wp2
          go_ret
          first | exact ⟨rfl, (by with_reducible (repeat (first | exact Ext.refl _ | apply Ext.drewN | apply Ext.drew | apply Ext.alloc | (refine Ext.set ?_ (by first | (simp; done) | (simp; omega) | omega) _) | (refine Ext.trans ?_ (by assumption)))))⟩ | exact ⟨ret_bool (beq_eq_false_iff_ne.2 izp), (by with_reducible (repeat (first | exact Ext.refl _ | apply Ext.drewN | apply Ext.drew | apply Ext.alloc | (refine Ext.set ?_ (by first | (simp; done) | (simp; omega) | omega) _) | (refine Ext.trans ?_ (by assumption)))))⟩ | exact ⟨ret_bool (by rw [beq_eq_false_iff_ne.2 izp, beq_eq_false_iff_ne.2 k4]; rfl), (by with_reducible (repeat (first | exact Ext.refl _ | apply Ext.drewN | apply Ext.drew | apply Ext.alloc | (refine Ext.set ?_ (by first | (simp; done) | (simp; omega) | omega) _) | (refine Ext.trans ?_ (by assumption)))))⟩
        · have izp : ¬ ((np : Int) + (nq : Int)) = 0 := by omega
          have HF : Hid (ebt 3 na nb ns (np + nq) = false) := by show _ = _; unfold ebt; first | exact decide_eq_true (by omega) | exact decide_eq_false (by omega)
          rw [HF.out]
          go_enter Tryz.func51, Tryz.ntmps51
          go_wp2
          go_ret
          first | exact ⟨rfl, (by with_reducible (repeat (first | exact Ext.refl _ | apply Ext.drewN | apply Ext.drew | apply Ext.alloc | (refine Ext.set ?_ (by first | (simp; done) | (simp; omega) | omega) _) | (refine Ext.trans ?_ (by assumption)))))⟩ | exact ⟨ret_bool (beq_eq_false_iff_ne.2 izp), (by with_reducible (repeat (first | exact Ext.refl _ | apply Ext.drewN | apply Ext.drew | apply Ext.alloc | (refine Ext.set ?_ (by first | (simp; done) | (simp; omega) | omega) _) | (refine Ext.trans ?_ (by assumption)))))⟩ | exact ⟨ret_bool (by rw [beq_eq_false_iff_ne.2 izp, beq_eq_false_iff_ne.2 k4]; rfl), (by with_reducible (repeat (first | exact Ext.refl _ | apply Ext.drewN | apply Ext.drew | apply Ext.alloc | (refine Ext.set ?_ (by first | (simp; done) | (simp; omega) | omega) _) | (refine Ext.trans ?_ (by assumption)))))⟩
      · have izb : ¬ ((nb : Nat) : Int) = 0 := by omega
        have HF : Hid (ebt 3 na nb ns (np + nq) = false) := by show _ = _; unfold ebt; first | exact decide_eq_true (by omega) | exact decide_eq_false (by omega)
        rw [HF.out]
        go_enter Tryz.func51, Tryz.ntmps51
        go_wp2
        go_ret
        first | exact ⟨rfl, (by with_reducible (repeat (first | exact Ext.refl _ | apply Ext.drewN | apply Ext.drew | apply Ext.alloc | (refine Ext.set ?_ (by first | (simp; done) | (simp; omega) | omega) _) | (refine Ext.trans ?_ (by assumption)))))⟩ | exact ⟨ret_bool (beq_eq_false_iff_ne.2 izp), (by with_reducible (repeat (first | exact Ext.refl _ | apply Ext.drewN | apply Ext.drew | apply Ext.alloc | (refine Ext.set ?_ (by first | (simp; done) | (simp; omega) | omega) _) | (refine Ext.trans ?_ (by assumption)))))⟩ | exact ⟨ret_bool (by rw [beq_eq_false_iff_ne.2 izp, beq_eq_false_iff_ne.2 k4]; rfl), (by with_reducible (repeat (first | exact Ext.refl _ | apply Ext.drewN | apply Ext.drew | apply Ext.alloc | (refine Ext.set ?_ (by first | (simp; done) | (simp; omega) | omega) _) | (refine Ext.trans ?_ (by assumption)))))⟩
    · have iza : ¬ ((na : Nat) : Int) = 0 := by omega
      have HF : Hid (ebt 3 na nb ns (np + nq) = false) := by show _ = _; unfold ebt; first | exact decide_eq_true (by omega) | exact decide_eq_false (by omega)
      rw [HF.out]
      go_enter Tryz.func51, Tryz.ntmps51
      go_wp2
      go_ret
      first | exact ⟨rfl, (by with_reducible (repeat (first | exact Ext.refl _ | apply Ext.drewN | apply Ext.drew | apply Ext.alloc | (refine Ext.set ?_ (by first | (simp; done) | (simp; omega) | omega) _) | (refine Ext.trans ?_ (by assumption)))))⟩ | exact ⟨ret_bool (beq_eq_false_iff_ne.2 izp), (by with_reducible (repeat (first | exact Ext.refl _ | apply Ext.drewN | apply Ext.drew | apply Ext.alloc | (refine Ext.set ?_ (by first | (simp; done) | (simp; omega) | omega) _) | (refine Ext.trans ?_ (by assumption)))))⟩ | exact ⟨ret_bool (by rw [beq_eq_false_iff_ne.2 izp, beq_eq_false_iff_ne.2 k4]; rfl), (by with_reducible (repeat (first | exact Ext.refl _ | apply Ext.drewN | apply Ext.drew | apply Ext.alloc | (refine Ext.set ?_ (by first | (simp; done) | (simp; omega) | omega) _) | (refine Ext.trans ?_ (by assumption)))))⟩
  by_cases k4 : k = 4
  · subst k4
    by_cases za : na = 0
    · have iza : ((na : Nat) : Int) = 0 := by omega
      by_cases zb : nb = 0
      · have izb : ((nb : Nat) : Int) = 0 := by omega
        by_cases zs : ns = 0
        · have izs : ((ns : Nat) : Int) = 0 := by omega
          have HF : Hid (ebt 4 na nb ns (np + nq) = true) := by show _ = _; unfold ebt; first | exact decide_eq_true (by omega) | exact decide_eq_false (by omega)
          rw [HF.out]
          go_enter Tryz.func51, Tryz.ntmps51
          go_wp2
          go_ret
          first | exact ⟨rfl, (by with_reducible (repeat (first | exact Ext.refl _ | apply Ext.drewN | apply Ext.drew | apply Ext.alloc | (refine Ext.set ?_ (by first | (simp; done) | (simp; omega) | omega) _) | (refine Ext.trans ?_ (by assumption)))))⟩ | exact ⟨ret_bool (beq_eq_false_iff_ne.2 izp), (by with_reducible (repeat (first | exact Ext.refl _ | apply Ext.drewN | apply Ext.drew | apply Ext.alloc | (refine Ext.set ?_ (by first | (simp; done) | (simp; omega) | omega) _) | (refine Ext.trans ?_ (by assumption)))))⟩ | exact ⟨ret_bool (by rw [beq_eq_false_iff_ne.2 izp, beq_eq_false_iff_ne.2 k4]; rfl), (by with_reducible (repeat (first | exact Ext.refl _ | apply Ext.drewN | apply Ext.drew | apply Ext.alloc | (refine Ext.set ?_ (by first | (simp; done) | (simp; omega) | omega) _) | (refine Ext.trans ?_ (by assumption)))))⟩
        · have izs : ¬ ((ns : Nat) : Int) = 0 := by omega
          have HF : Hid (ebt 4 na nb ns (np + nq) = false) := by show _ = _; unfold ebt; first | exact decide_eq_true (by omega) | exact decide_eq_false (by omega)
          rw [HF.out]
          go_enter Tryz.func51, Tryz.ntmps51
          go_wp2
          go_ret
          first | exact ⟨rfl, (by with_reducible (repeat (first | exact Ext.refl _ | apply Ext.drewN | apply Ext.drew | apply Ext.alloc | (refine Ext.set ?_ (by first | (simp; done) | (simp; omega) | omega) _) | (refine Ext.trans ?_ (by assumption)))))⟩ | exact ⟨ret_bool (beq_eq_false_iff_ne.2 izp), (by with_reducible (repeat (first | exact Ext.refl _ | apply Ext.drewN | apply Ext.drew | apply Ext.alloc | (refine Ext.set ?_ (by first | (simp; done) | (simp; omega) | omega) _) | (refine Ext.trans ?_ (by assumption)))))⟩ | exact ⟨ret_bool (by rw [beq_eq_false_iff_ne.2 izp, beq_eq_false_iff_ne.2 k4]; rfl), (by with_reducible (repeat (first | exact Ext.refl _ | apply Ext.drewN | apply Ext.drew | apply Ext.alloc | (refine Ext.set ?_ (by first | (simp; done) | (simp; omega) | omega) _) | (refine Ext.trans ?_ (by assumption)))))⟩
      · have izb : ¬ ((nb : Nat) : Int) = 0 := by omega
        have HF : Hid (ebt 4 na nb ns (np + nq) = false) := by show _ = _; unfold ebt; first | exact decide_eq_true (by omega) | exact decide_eq_false (by omega)
        rw [HF.out]
        go_enter Tryz.func51, Tryz.ntmps51
        go_wp2
        go_ret
        first | exact ⟨rfl, (by with_reducible (repeat (first | exact Ext.refl _ | apply Ext.drewN | apply Ext.drew | apply Ext.alloc | (refine Ext.set ?_ (by first | (simp; done) | (simp; omega) | omega) _) | (refine Ext.trans ?_ (by assumption)))))⟩ | exact ⟨ret_bool (beq_eq_false_iff_ne.2 izp), (by with_reducible (repeat (first | exact Ext.refl _ | apply Ext.drewN | apply Ext.drew | apply Ext.alloc | (refine Ext.set ?_ (by first | (simp; done) | (simp; omega) | omega) _) | (refine Ext.trans ?_ (by assumption)))))⟩ | exact ⟨ret_bool (by rw [beq_eq_false_iff_ne.2 izp, beq_eq_false_iff_ne.2 k4]; rfl), (by with_reducible (repeat (first | exact Ext.refl _ | apply Ext.drewN | apply Ext.drew | apply Ext.alloc | (refine Ext.set ?_ (by first | (simp; done) | (simp; omega) | omega) _) | (refine Ext.trans ?_ (by assumption)))))⟩
    · have iza : ¬ ((na : Nat) : Int) = 0 := by omega
      have HF : Hid (ebt 4 na nb ns (np + nq) = false) := by show _ = _; unfold ebt; first | exact decide_eq_true (by omega) | exact decide_eq_false (by omega)
      rw [HF.out]
      go_enter Tryz.func51, Tryz.ntmps51
      go_wp2
      go_ret
      first | exact ⟨rfl, (by with_reducible (repeat (first | exact Ext.refl _ | apply Ext.drewN | apply Ext.drew | apply Ext.alloc | (refine Ext.set ?_ (by first | (simp; done) | (simp; omega) | omega) _) | (refine Ext.trans ?_ (by assumption)))))⟩ | exact ⟨ret_bool (beq_eq_false_iff_ne.2 izp), (by with_reducible (repeat (first | exact Ext.refl _ | apply Ext.drewN | apply Ext.drew | apply Ext.alloc | (refine Ext.set ?_ (by first | (simp; done) | (simp; omega) | omega) _) | (refine Ext.trans ?_ (by assumption)))))⟩ | exact ⟨ret_bool (by rw [beq_eq_false_iff_ne.2 izp, beq_eq_false_iff_ne.2 k4]; rfl), (by with_reducible (repeat (first | exact Ext.refl _ | apply Ext.drewN | apply Ext.drew | apply Ext.alloc | (refine Ext.set ?_ (by first | (simp; done) | (simp; omega) | omega) _) | (refine Ext.trans ?_ (by assumption)))))⟩
  by_cases za : na = 0
  · have iza : ((na : Nat) : Int) = 0 := by omega
    by_cases zb : nb = 0
    · have izb : ((nb : Nat) : Int) = 0 := by omega
      by_cases zs : ns = 0
      · have izs : ((ns : Nat) : Int) = 0 := by omega
        by_cases zp : np + nq = 0
        · have izp : ((np : Int) + (nq : Int)) = 0 := by omega
          have HF : Hid (ebt k na nb ns (np + nq) = true) := by show _ = _; unfold ebt; first | exact decide_eq_true (by omega) | exact decide_eq_false (by omega)
          rw [HF.out]
          go_enter Tryz.func51, Tryz.ntmps51
          go_wp2
          go_ret
          first | exact ⟨rfl, (by with_reducible (repeat (first | exact Ext.refl _ | apply Ext.drewN | apply Ext.drew | apply Ext.alloc | (refine Ext.set ?_ (by first | (simp; done) | (simp; omega) | omega) _) | (refine Ext.trans ?_ (by assumption)))))⟩ | exact ⟨ret_bool (beq_eq_false_iff_ne.2 izp), (by with_reducible (repeat (first | exact Ext.refl _ | apply Ext.drewN | apply Ext.drew | apply Ext.alloc | (refine Ext.set ?_ (by first | (simp; done) | (simp; omega) | omega) _) | (refine Ext.trans ?_ (by assumption)))))⟩ | exact ⟨ret_bool (by rw [beq_eq_false_iff_ne.2 izp, beq_eq_false_iff_ne.2 k4]; rfl), (by with_reducible (repeat (first | exact Ext.refl _ | apply Ext.drewN | apply Ext.drew | apply Ext.alloc | (refine Ext.set ?_ (by first | (simp; done) | (simp; omega) | omega) _) | (refine Ext.trans ?_ (by assumption)))))⟩
        · have izp : ¬ ((np : Int) + (nq : Int)) = 0 := by omega
          have HF : Hid (ebt k na nb ns (np + nq) = false) := by show _ = _; unfold ebt; first | exact decide_eq_true (by omega) | exact decide_eq_false (by omega)
          rw [HF.out]
          go_enter Tryz.func51, Tryz.ntmps51
          go_wp2
          go_ret
          first | exact ⟨rfl, (by with_reducible (repeat (first | exact Ext.refl _ | apply Ext.drewN | apply Ext.drew | apply Ext.alloc | (refine Ext.set ?_ (by first | (simp; done) | (simp; omega) | omega) _) | (refine Ext.trans ?_ (by assumption)))))⟩ | exact ⟨ret_bool (beq_eq_false_iff_ne.2 izp), (by with_reducible (repeat (first | exact Ext.refl _ | apply Ext.drewN | apply Ext.drew | apply Ext.alloc | (refine Ext.set ?_ (by first | (simp; done) | (simp; omega) | omega) _) | (refine Ext.trans ?_ (by assumption)))))⟩ | exact ⟨ret_bool (by rw [beq_eq_false_iff_ne.2 izp, beq_eq_false_iff_ne.2 k4]; rfl), (by with_reducible (repeat (first | exact Ext.refl _ | apply Ext.drewN | apply Ext.drew | apply Ext.alloc | (refine Ext.set ?_ (by first | (simp; done) | (simp; omega) | omega) _) | (refine Ext.trans ?_ (by assumption)))))⟩
      · have izs : ¬ ((ns : Nat) : Int) = 0 := by omega
        have HF : Hid (ebt k na nb ns (np + nq) = false) := by show _ = _; unfold ebt; first | exact decide_eq_true (by omega) | exact decide_eq_false (by omega)
        rw [HF.out]
        go_enter Tryz.func51, Tryz.ntmps51
        go_wp2
        go_ret
        first | exact ⟨rfl, (by with_reducible (repeat (first | exact Ext.refl _ | apply Ext.drewN | apply Ext.drew | apply Ext.alloc | (refine Ext.set ?_ (by first | (simp; done) | (simp; omega) | omega) _) | (refine Ext.trans ?_ (by assumption)))))⟩ | exact ⟨ret_bool (beq_eq_false_iff_ne.2 izp), (by with_reducible (repeat (first | exact Ext.refl _ | apply Ext.drewN | apply Ext.drew | apply Ext.alloc | (refine Ext.set ?_ (by first | (simp; done) | (simp; omega) | omega) _) | (refine Ext.trans ?_ (by assumption)))))⟩ | exact ⟨ret_bool (by rw [beq_eq_false_iff_ne.2 izp, beq_eq_false_iff_ne.2 k4]; rfl), (by with_reducible (repeat (first | exact Ext.refl _ | apply Ext.drewN | apply Ext.drew | apply Ext.alloc | (refine Ext.set ?_ (by first | (simp; done) | (simp; omega) | omega) _) | (refine Ext.trans ?_ (by assumption)))))⟩
    · have izb : ¬ ((nb : Nat) : Int) = 0 := by omega
      have HF : Hid (ebt k na nb ns (np + nq) = false) := by show _ = _; unfold ebt; first | exact decide_eq_true (by omega) | exact decide_eq_false (by omega)
      rw [HF.out]
      go_enter Tryz.func51, Tryz.ntmps51
      go_wp2
      go_ret
      first | exact ⟨rfl, (by with_reducible (repeat (first | exact Ext.refl _ | apply Ext.drewN | apply Ext.drew | apply Ext.alloc | (refine Ext.set ?_ (by first | (simp; done) | (simp; omega) | omega) _) | (refine Ext.trans ?_ (by assumption)))))⟩ | exact ⟨ret_bool (beq_eq_false_iff_ne.2 izp), (by with_reducible (repeat (first | exact Ext.refl _ | apply Ext.drewN | apply Ext.drew | apply Ext.alloc | (refine Ext.set ?_ (by first | (simp; done) | (simp; omega) | omega) _) | (refine Ext.trans ?_ (by assumption)))))⟩ | exact ⟨ret_bool (by rw [beq_eq_false_iff_ne.2 izp, beq_eq_false_iff_ne.2 k4]; rfl), (by with_reducible (repeat (first | exact Ext.refl _ | apply Ext.drewN | apply Ext.drew | apply Ext.alloc | (refine Ext.set ?_ (by first | (simp; done) | (simp; omega) | omega) _) | (refine Ext.trans ?_ (by assumption)))))⟩
  · have iza : ¬ ((na : Nat) : Int) = 0 := by omega
    have HF : Hid (ebt k na nb ns (np + nq) = false) := by show _ = _; unfold ebt; first | exact decide_eq_true (by omega) | exact decide_eq_false (by omega)
    rw [HF.out]
    go_enter Tryz.func51, Tryz.ntmps51
    go_wp2
    go_ret
    first | exact ⟨rfl, (by with_reducible (repeat (first | exact Ext.refl _ | apply Ext.drewN | apply Ext.drew | apply Ext.alloc | (refine Ext.set ?_ (by first | (simp; done) | (simp; omega) | omega) _) | (refine Ext.trans ?_ (by assumption)))))⟩ | exact ⟨ret_bool (beq_eq_false_iff_ne.2 izp), (by with_reducible (repeat (first | exact Ext.refl _ | apply Ext.drewN | apply Ext.drew | apply Ext.alloc | (refine Ext.set ?_ (by first | (simp; done) | (simp; omega) | omega) _) | (refine Ext.trans ?_ (by assumption)))))⟩ | exact ⟨ret_bool (by rw [beq_eq_false_iff_ne.2 izp, beq_eq_false_iff_ne.2 k4]; rfl), (by with_reducible (repeat (first | exact Ext.refl _ | apply Ext.drewN | apply Ext.drew | apply Ext.alloc | (refine Ext.set ?_ (by first | (simp; done) | (simp; omega) | omega) _) | (refine Ext.trans ?_ (by assumption)))))⟩
end Go.Proofs.YtbihbhdaenhdoaaGreat
