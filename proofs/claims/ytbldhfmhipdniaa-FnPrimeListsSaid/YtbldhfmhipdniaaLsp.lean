/- The plain law of a search for patterns: what is listed, beat by beat. Plain lemmas. -/
import Derived.Test.YtbldhfmhipdniaaIlr
namespace Go.Proofs.Ytbldhfmhipdniaa
set_option linter.unusedVariables false
set_option linter.unusedSimpArgs false
open Go.RowKit Go.Joins

/-- All ways to go on from a beat: d beats are left, U tells the beats that are landed on, l is the sum that is left. -/
def srch (n h : Nat) : Nat → (Nat → Bool) → List Int → Int → List (List Int)
  | 0, _, pre, l => if l = 0 then [pre] else []
  | d + 1, U, pre, l => (List.range (h + 1)).flatMap fun (t : Nat) =>
      if (t : Int) ≤ l ∧ U ((n - (d + 1) + t) % n) = false ∧ l - t ≤ (d : Int) * h then srch n h d (upd U ((n - (d + 1) + t) % n) true) (pre ++ [(t : Int)]) (l - t) else []
/-- The ways with the throw t. -/
def sarm (n h d : Nat) (U : Nat → Bool) (pre : List Int) (l : Int) (t : Nat) : List (List Int) :=
  if (t : Int) ≤ l ∧ U ((n - (d + 1) + t) % n) = false ∧ l - t ≤ (d : Int) * h then srch n h d (upd U ((n - (d + 1) + t) % n) true) (pre ++ [(t : Int)]) (l - t) else []
/-- The ways with throws below k. -/
def spart (n h d : Nat) (U : Nat → Bool) (pre : List Int) (l : Int) (k : Nat) : List (List Int) := (List.range k).flatMap (sarm n h d U pre l)
section
variable {n h d : Nat} {U : Nat → Bool} {pre : List Int} {l : Int}
theorem srch_succ : srch n h (d + 1) U pre l = spart n h d U pre l (h + 1) := rfl
theorem spart_zero : spart n h d U pre l 0 = [] := rfl
theorem spart_succ (k : Nat) : spart n h d U pre l (k + 1) = spart n h d U pre l k ++ sarm n h d U pre l k := by
  unfold spart
  rw [List.range_succ, List.flatMap_append]
  simp
theorem sarm_yes {t : Nat} (h1 : (t : Int) ≤ l) (h2 : U ((n - (d + 1) + t) % n) = false) (h3 : l - t ≤ (d : Int) * h) : sarm n h d U pre l t = srch n h d (upd U ((n - (d + 1) + t) % n) true) (pre ++ [(t : Int)]) (l - t) := if_pos ⟨h1, h2, h3⟩
theorem sarm_no {t : Nat} (hn : ¬ ((t : Int) ≤ l ∧ U ((n - (d + 1) + t) % n) = false ∧ l - t ≤ (d : Int) * h)) : sarm n h d U pre l t = [] := if_neg hn
theorem spart_low : ∀ k : Nat, (k : Int) ≤ l - (d : Int) * h → spart n h d U pre l k = []
  | 0, _ => rfl
  | k + 1, hk => by
    rw [spart_succ, spart_low k (by omega), sarm_no (by omega)]
    rfl
theorem spart_high (k : Nat) (hk : l < k) : ∀ m, spart n h d U pre l (k + m) = spart n h d U pre l k
  | 0 => rfl
  | m + 1 => by
    rw [← Nat.add_assoc, spart_succ, spart_high k hk m, sarm_no (by omega)]
    simp
theorem spart_end {k : Nat} (hk : l < k) (hh : k ≤ h + 1) : srch n h (d + 1) U pre l = spart n h d U pre l k := by
  have := spart_high (n := n) (h := h) (d := d) (U := U) (pre := pre) k hk (h + 1 - k)
  rw [show k + (h + 1 - k) = h + 1 by omega] at this
  rw [srch_succ, this]
end
theorem srch_mem (n h : Nat) : ∀ (d : Nat) (U : Nat → Bool) (pre : List Int) (l : Int), ∀ p ∈ srch n h d U pre l, p.length = pre.length + d ∧ ∀ y ∈ p, y ∈ pre ∨ (0 ≤ y ∧ y ≤ h)
  | 0, U, pre, l => by
    intro p hp
    unfold srch at hp
    split at hp
    · simp at hp
      subst hp
      exact ⟨rfl, fun y hy => .inl hy⟩
    · simp at hp
  | d + 1, U, pre, l => by
    intro p hp
    unfold srch at hp
    simp only [List.mem_flatMap, List.mem_range] at hp
    obtain ⟨t, ht, hp⟩ := hp
    split at hp
    · obtain ⟨h1, h2⟩ := srch_mem n h d _ _ _ p hp
      refine ⟨by simp at h1; omega, fun y hy => ?_⟩
      rcases h2 y hy with h3 | h3
      · simp at h3
        rcases h3 with h3 | rfl
        · exact .inl h3
        · exact .inr (by omega)
      · exact .inr h3
    · simp at hp
/-- The table of the beats that are landed on. -/
def usd (n : Nat) (U : Nat → Bool) : List Value := (List.range n).map fun i => .bool (U i)
theorem usd_len (n : Nat) (U : Nat → Bool) : (usd n U).length = n := by simp [usd]
theorem usd_get {n : Nat} (U : Nat → Bool) {j : Nat} (h : j < n) : (usd n U)[j]? = some (.bool (U j)) := by simp [usd, h]
theorem usd_set (n : Nat) (U : Nat → Bool) (j : Nat) (b : Bool) : (usd n U).set j (.bool b) = usd n (upd U j b) := by
  apply List.ext_getElem?
  intro i
  by_cases hi : i < n
  · rw [usd_get _ hi]
    by_cases e : i = j
    · subst e
      rw [upd_self, List.getElem?_set_self (by rw [usd_len]; exact hi)]
    · rw [upd_ne _ _ e, List.getElem?_set_ne (Ne.symm e), usd_get _ hi]
  · rw [List.getElem?_eq_none (by rw [List.length_set, usd_len]; omega), List.getElem?_eq_none (by rw [usd_len]; omega)]
theorem usd_back (n : Nat) (U : Nat → Bool) (j : Nat) (h : U j = false) : usd n (upd (upd U j true) j false) = usd n U := by
  congr 1
  funext i
  by_cases e : i = j
  · subst e; rw [upd_self, h]
  · rw [upd_ne _ _ e, upd_ne _ _ e]
/-- What the reference holds: as far as 3000. -/
theorem take_app {α : Type} (A B : List α) (m : Nat) : (A.take m ++ B).take m = (A ++ B).take m := by
  rw [List.take_append, List.take_append, List.take_take, Nat.min_self, List.length_take]
  congr 1
  by_cases h : A.length ≤ m
  · rw [Nat.min_eq_right h]
  · rw [Nat.min_eq_left (by omega), Nat.sub_self, show m - A.length = 0 by omega]
end Go.Proofs.Ytbldhfmhipdniaa
