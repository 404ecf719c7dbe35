/- SwapJugglers and ExchangePasses: contracts with a named result, for the laws' walks. No condition but the stated bounds. -/
import Derived.Test.YtlalaomimfdepaaThr7
namespace Go.Proofs.Ytlalaomimfdepaa
set_option linter.unusedVariables false
set_option linter.unusedSimpArgs false
open Go.ChangeShapes Go.WideShapes Go.ChangeAt Go.RowKit Go.Joins Go.Deep

theorem swj_bd {ts us ys zs : List (Int × Bool)} {r : Int} (h : swj ts us = (ys, zs, r)) : ys.length ≤ 1048576 ∧ zs.length ≤ 1048576 := by
  unfold swj at h
  split at h
  · obtain ⟨g1, g2, g3, -, -⟩ := vpas_parts (by assumption)
    simp only [Prod.mk.injEq] at h
    obtain ⟨rfl, rfl, -⟩ := h
    omega
  · simp only [Prod.mk.injEq] at h
    obtain ⟨rfl, rfl, -⟩ := h
    simp
theorem spec_swap_is (A B : Option Addr) (n c m d : Nat) (ts us : List (Int × Bool)) (w : World) (hI : Thr w A n ts) (hJ : Thr w B m us) {ys zs : List (Int × Bool)} {r : Int} (h : swj ts us = (ys, zs, r)) :
    Calls Try.prog 7 #[.agg #[.slice A n c, .slice B m d]] w (RetPC w ys zs r) := by
  have := spec_swap A B n c m d ts us w hI hJ
  rw [h] at this
  exact this
theorem impl_swap_is (A B : Option Addr) (n c m d : Nat) (ts us : List (Int × Bool)) (w : World) (hI : Thr w A n ts) (hJ : Thr w B m us) {ys zs : List (Int × Bool)} {r : Int} (h : swj ts us = (ys, zs, r)) :
    Calls Try.prog 9 #[.agg #[.slice A n c, .slice B m d]] w (RetPC w ys zs r) := by
  have := impl_swap A B n c m d ts us w hI hJ
  rw [h] at this
  exact this
end Go.Proofs.Ytlalaomimfdepaa
