/- Bounds of the lists of patterns. Plain lemmas. -/
import Derived.Test.YtbldhfmhipdniaaStv
namespace Go.Proofs.Ytbldhfmhipdniaa
set_option linter.unusedVariables false
set_option linter.unusedSimpArgs false
open Go.RowKit

theorem lst_mem {a b c : Int} (hb : 0 ≤ b) (hc : 0 ≤ c) {p : List Int} (hp : p ∈ lst a b c) : (p.length : Int) = b ∧ ∀ y ∈ p, 0 ≤ y ∧ y ≤ c := by
  obtain ⟨h1, h2⟩ := srch_mem _ _ _ _ _ _ p hp
  refine ⟨by simp at h1; omega, fun y hy => ?_⟩
  rcases h2 y hy with h3 | h3
  · simp at h3
  · omega
theorem ll_mem {L : List (List Int)} {i : Nat} (hi : i < L.length) : ll L i ∈ L := by
  unfold ll
  rw [List.getElem?_eq_getElem hi]
  exact List.getElem_mem hi
/-- What is known of the lists. -/
def Bd6 (L : List (List Int)) : Prop := ∀ i, i < L.length → (ll L i).length ≤ 6 ∧ ∀ y ∈ ll L i, -9223372036854775808 ≤ y ∧ y ≤ 9223372036854775807
theorem lstR_yes {a b c : Int} (h : (lstR a b c).2 = 0) : (0 ≤ a ∧ a ≤ 15) ∧ (1 ≤ b ∧ b ≤ 6) ∧ (0 ≤ c ∧ c ≤ 15) ∧ (lst a b c).length ≤ 3000 ∧ lstR a b c = (lst a b c, 0) := by
  unfold lstR at h ⊢
  split at h
  · rename_i h1
    rw [if_pos h1]
    simp only [Bool.and_eq_true, btw_iff] at h1
    split at h
    · simp at h
    · rename_i h2
      rw [if_neg h2]
      exact ⟨h1.1.1, h1.1.2, h1.2, by omega, rfl⟩
  · simp at h
theorem lstR_no {a b c : Int} (h : (lstR a b c).2 ≠ 0) : (lstR a b c).1 = [] := by
  unfold lstR at h ⊢
  split at h
  · rename_i h1
    rw [if_pos h1]
    split at h
    · rename_i h2
      rw [if_pos h2]
    · simp at h
  · rename_i h1
    rw [if_neg h1]
theorem lstR_bd (a b c : Int) : (lstR a b c).1.length ≤ 3000 ∧ Bd6 (lstR a b c).1 := by
  by_cases h : (lstR a b c).2 = 0
  · obtain ⟨h1, h2, h3, h4, h5⟩ := lstR_yes h
    rw [h5]
    refine ⟨h4, fun i hi => ?_⟩
    show (ll (lst a b c) i).length ≤ 6 ∧ _
    obtain ⟨h6, h7⟩ := lst_mem (by omega) (by omega) (ll_mem (L := lst a b c) hi)
    exact ⟨by omega, fun y hy => by have := h7 y hy; omega⟩
  · rw [lstR_no h]
    exact ⟨by simp, fun i hi => by simp at hi⟩
end Go.Proofs.Ytbldhfmhipdniaa
