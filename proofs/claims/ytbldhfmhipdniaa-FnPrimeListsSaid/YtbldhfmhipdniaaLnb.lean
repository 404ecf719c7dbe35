/- Bounds of the canonical patterns that are listed. Plain lemmas. -/
import Derived.Test.YtbldhfmhipdniaaLnc
namespace Go.Proofs.Ytbldhfmhipdniaa
set_option linter.unusedVariables false
set_option linter.unusedSimpArgs false
open Go.RowKit

theorem lnR_bd (a b c : Int) : (lnR a b c).1.length ≤ 3000 ∧ Bd6 (lnR a b c).1 := by
  unfold lnR
  by_cases h : (lstR a b c).2 = 0
  · obtain ⟨h1, h2, h3, h4, h5⟩ := lstR_yes h
    rw [if_pos h]
    refine ⟨Nat.le_trans (List.length_filter_le _ _) h4, fun i hi => ?_⟩
    show (ll ((lst a b c).filter lnP) i).length ≤ 6 ∧ _
    obtain ⟨h6, h7⟩ := lst_mem (by omega) (by omega) (List.mem_filter.1 (ll_mem (L := (lst a b c).filter lnP) hi)).1
    exact ⟨by omega, fun y hy => by have := h7 y hy; omega⟩
  · rw [if_neg h]
    exact ⟨by simp, fun i hi => by simp at hi⟩
end Go.Proofs.Ytbldhfmhipdniaa
