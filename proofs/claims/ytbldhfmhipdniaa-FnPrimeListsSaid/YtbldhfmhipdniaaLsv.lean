/- What is listed is a pattern, and in ascending order. Plain lemmas. -/
import Derived.Test.YtbldhfmhipdniaaLpb
import Derived.Test.YtbldhfmhipdniaaCnx
namespace Go.Proofs.Ytbldhfmhipdniaa
set_option linter.unusedVariables false
set_option linter.unusedSimpArgs false
open Go.RowKit

/-- The beat of the period where a throw lands. -/
def ldn (n : Nat) (xs : List Int) (i : Nat) : Nat := (i + (xs[i]?.getD 0).toNat) % n
structure InvL (n : Nat) (U : Nat → Bool) (pre : List Int) : Prop where
  hit : ∀ i, i < pre.length → U (ldn n pre i) = true
  dis : ∀ a b, a < b → b < pre.length → ldn n pre a ≠ ldn n pre b
theorem ldn_app {n : Nat} {pre : List Int} {x : List Int} {i : Nat} (h : i < pre.length) : ldn n (pre ++ x) i = ldn n pre i := by
  unfold ldn
  rw [List.getElem?_append_left h]
theorem ldn_end {n : Nat} {pre : List Int} {t : Nat} : ldn n (pre ++ [(t : Int)]) pre.length = (pre.length + t) % n := by
  unfold ldn
  rw [List.getElem?_append_right (Nat.le_refl _)]
  simp
theorem InvL.push {n : Nat} {U : Nat → Bool} {pre : List Int} {t : Nat} (h : InvL n U pre) (hu : U ((pre.length + t) % n) = false) : InvL n (upd U ((pre.length + t) % n) true) (pre ++ [(t : Int)]) := by
  refine ⟨fun i hi => ?_, fun a b hab hb => ?_⟩
  · rw [List.length_append, List.length_singleton] at hi
    by_cases e : i = pre.length
    · subst e
      rw [ldn_end, upd_self]
    · rw [ldn_app (by omega)]
      have h1 := h.hit i (by omega)
      by_cases e2 : ldn n pre i = (pre.length + t) % n
      · rw [e2, upd_self]
      · rw [upd_ne _ _ e2]; exact h1
  · rw [List.length_append, List.length_singleton] at hb
    by_cases e : b = pre.length
    · subst e
      rw [ldn_end, ldn_app hab]
      intro e2
      have h1 := h.hit a hab
      rw [e2, hu] at h1
      cases h1
    · rw [ldn_app (by omega), ldn_app (by omega)]
      exact h.dis a b hab (by omega)
theorem srch_inv {n h : Nat} : ∀ (d : Nat) (U : Nat → Bool) (pre : List Int) (l : Int), pre.length + d = n → InvL n U pre → ∀ p ∈ srch n h d U pre l, ∃ V, InvL n V p
  | 0, U, pre, l, _, hI, p, hp => by
    unfold srch at hp
    split at hp
    · simp at hp; subst hp; exact ⟨U, hI⟩
    · simp at hp
  | d + 1, U, pre, l, hl, hI, p, hp => by
    unfold srch at hp
    simp only [List.mem_flatMap, List.mem_range] at hp
    obtain ⟨t, ht, hp⟩ := hp
    split at hp
    · rename_i hc
      have e : n - (d + 1) + t = pre.length + t := by omega
      rw [e] at hp hc
      exact srch_inv d _ _ _ (by rw [List.length_append, List.length_singleton]; omega) (hI.push hc.2.1) p hp
    · simp at hp
theorem lnd_ldn {n : Nat} {xs : List Int} (hl : xs.length = n) {i : Nat} (h0 : 0 ≤ xs[i]?.getD 0) : lnd xs i = (ldn n xs i : Int) := by
  unfold lnd ldn
  rw [hl]
  have : (xs[i]?.getD 0) = (((xs[i]?.getD 0).toNat : Nat) : Int) := (Int.toNat_of_nonneg h0).symm
  rw [this]
  simp
/-- What is listed is a pattern. -/
theorem lst_valid {a b c : Int} (hb : 1 ≤ b ∧ b ≤ 12) (hc : 0 ≤ c ∧ c ≤ 15) {p : List Int} (hp : p ∈ lst a b c) : vpat p = true := by
  obtain ⟨h1, h2⟩ := lst_mem (by omega) (by omega) hp
  have hg : ∀ i, i < p.length → 0 ≤ p[i]?.getD 0 ∧ p[i]?.getD 0 ≤ 15 := fun i hi => by
    rw [List.getElem?_eq_getElem hi]
    have := h2 _ (List.getElem_mem hi)
    simp only [Option.getD_some]
    omega
  obtain ⟨V, hV⟩ := srch_inv (n := b.toNat) (h := c.toNat) b.toNat (fun _ => false) [] (a * b) (by simp) ⟨fun i hi => by simp at hi, fun x y _ hy => by simp at hy⟩ p hp
  unfold vpat
  rw [Bool.and_eq_true]
  refine ⟨thr_iff.2 ⟨hg, by omega, by omega⟩, ncl_yes (fun j hj i hi => ?_)⟩
  have hl : p.length = b.toNat := by omega
  rw [lnd_ldn hl (hg i (by omega)).1, lnd_ldn hl (hg j hj).1]
  intro e
  exact hV.dis i j hi hj (by exact_mod_cast e)
theorem srch_pre {n h : Nat} : ∀ (d : Nat) (U : Nat → Bool) (pre : List Int) (l : Int), ∀ p ∈ srch n h d U pre l, ∃ r, p = pre ++ r
  | 0, U, pre, l, p, hp => by
    unfold srch at hp
    split at hp
    · simp at hp; exact ⟨[], by rw [hp, List.append_nil]⟩
    · simp at hp
  | d + 1, U, pre, l, p, hp => by
    unfold srch at hp
    simp only [List.mem_flatMap, List.mem_range] at hp
    obtain ⟨t, ht, hp⟩ := hp
    split at hp
    · obtain ⟨r, e⟩ := srch_pre d _ _ _ p hp
      exact ⟨(t : Int) :: r, by rw [e, List.append_assoc]; rfl⟩
    · simp at hp
theorem cmpL_pre : ∀ (a x y : List Int), cmpL (a ++ x) (a ++ y) = cmpL x y
  | [], _, _ => rfl
  | z :: a, x, y => by
    show (if z < z then (-1 : Int) else if z < z then 1 else cmpL (a ++ x) (a ++ y)) = cmpL x y
    rw [if_neg (by omega), if_neg (by omega)]
    exact cmpL_pre a x y
theorem srch_asc {n h : Nat} : ∀ (d : Nat) (U : Nat → Bool) (pre : List Int) (l : Int), (srch n h d U pre l).Pairwise (fun p q => cmpL p q = -1)
  | 0, U, pre, l => by
    unfold srch
    split <;> simp
  | d + 1, U, pre, l => by
    rw [srch_succ]
    unfold spart
    rw [List.pairwise_flatMap]
    refine ⟨fun t _ => ?_, List.pairwise_lt_range.imp (fun {s t} hst p hp q hq => ?_)⟩
    · unfold sarm
      split
      · exact srch_asc d _ _ _
      · exact List.Pairwise.nil
    · unfold sarm at hp hq
      split at hp
      · split at hq
        · obtain ⟨r, rfl⟩ := srch_pre _ _ _ _ p hp
          obtain ⟨r2, rfl⟩ := srch_pre _ _ _ _ q hq
          rw [List.append_assoc, List.append_assoc, cmpL_pre]
          show cmpL ((s : Int) :: r) ((t : Int) :: r2) = -1
          unfold cmpL
          exact if_pos (by omega)
        · simp at hq
      · simp at hp
theorem lst_asc (a b c : Int) : (lst a b c).Pairwise (fun p q => cmpL p q = -1) := srch_asc _ _ _ _
theorem asc_at {L : List (List Int)} (h : L.Pairwise (fun p q => cmpL p q = -1)) {i j : Nat} (hij : i < j) (hj : j < L.length) : cmpL (ll L i) (ll L j) = -1 := by
  have := List.pairwise_iff_getElem.1 h i j (by omega) hj hij
  unfold ll
  rw [List.getElem?_eq_getElem (by omega), List.getElem?_eq_getElem hj]
  exact this
theorem cmpL_swap : ∀ {x y : List Int}, cmpL x y = -1 → cmpL y x = 1
  | [], _, h => by simp [cmpL] at h
  | _ :: _, [], h => by simp [cmpL] at h
  | x :: xs, y :: ys, h => by
    unfold cmpL at h ⊢
    split at h
    · rw [if_neg (by omega), if_pos (by omega)]
    · split at h
      · simp at h
      · rw [if_neg (by omega), if_neg (by omega)]
        exact cmpL_swap h
end Go.Proofs.Ytbldhfmhipdniaa
