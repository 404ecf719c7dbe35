/- Patterns: lists of throws. The plain words, and the contracts of l02List, areThrows. -/
import Derived.Test.YtbihbhdaenhdoaaGreatSli
namespace Go.Proofs.YtbihbhdaenhdoaaGreat
set_option linter.unusedVariables false
set_option linter.unusedSimpArgs false
open Go.RowKit

/-- Each number is a throw, and there are 1 to 12. -/
def thr (xs : List Int) : Bool := decide (∀ i, i < xs.length → btw (xs[i]?.getD 0) 0 15 = true) && btw (xs.length : Int) 1 12
theorem thr_no {xs : List Int} {i : Nat} (hi : i < xs.length) (h : btw (xs[i]?.getD 0) 0 15 = false) : thr xs = false := by
  unfold thr
  rw [Bool.and_eq_false_iff]
  left
  rw [decide_eq_false_iff_not]
  intro h'
  rw [h' i hi] at h
  cases h
theorem thr_yes {xs : List Int} (h : ∀ i, i < xs.length → btw (xs[i]?.getD 0) 0 15 = true) : thr xs = btw (xs.length : Int) 1 12 := by
  unfold thr
  rw [decide_eq_true h, Bool.true_and]
theorem thr_iff {xs : List Int} : thr xs = true ↔ (∀ i, i < xs.length → 0 ≤ xs[i]?.getD 0 ∧ xs[i]?.getD 0 ≤ 15) ∧ 1 ≤ xs.length ∧ xs.length ≤ 12 := by
  unfold thr
  rw [Bool.and_eq_true, decide_eq_true_iff, btw_iff]
  simp only [btw_iff]
  constructor
  · rintro ⟨h1, h2⟩
    exact ⟨h1, by omega, by omega⟩
  · rintro ⟨h1, h2, h3⟩
    exact ⟨h1, by omega, by omega⟩
def AllThr (xs : List Int) (k : Nat) : Prop := ∀ i, i < k → btw (xs[i]?.getD 0) 0 15 = true
theorem AllThr.zero (xs : List Int) : AllThr xs 0 := fun i h => absurd h (by omega)
theorem AllThr.succ {xs : List Int} {k : Nat} (h : AllThr xs k) (hk : btw (xs[k]?.getD 0) 0 15 = true) : AllThr xs (k + 1) := fun i hi => by
  by_cases e : i = k
  · rw [e]; exact hk
  · exact h i (by omega)
set_option maxHeartbeats 400000 in
theorem l02List_any (A : Option Addr) (n c : Nat) (xs : List Int) (w : World) (hI : Ints w A n xs) :
    Calls Tryz.prog 97 #[.slice A n c] w fun e w' => e = .returned (.bool (thr xs)) ∧ w = w' := by
  have hs := hI.small
  go_enter Tryz.func97, Tryz.ntmps97
  go_wp2
  go_loop [3] (fun i => ∃ k : Nat, k ≤ n ∧ i = .int .i64 k ∧ AllThr xs k) (fun i => n - (intOf i).toNat)
  case atStart => exact ⟨0, Nat.zero_le _, rfl, AllThr.zero xs⟩
  case round =>
    obtain ⟨k, hk, rfl, hall⟩ := hrel
    by_cases hlt : k < n
    · obtain ⟨b, off, rfl, hb, hcell⟩ := hI.at_ (by omega)
      have hc := hcell k hlt
      have hbd := hI.getD_bd k
      clear hcell
      cases hr : btw (xs[k]?.getD 0) 0 15
      · have HF : Hid (thr xs = false) := thr_no (by rw [hI.len]; exact hlt) hr
        go_wp2_with (go_at_call 29; (with_reducible refine (l00In_is _ _ _ _ hr _).mono ?_); rintro e w' ⟨rfl, rfl⟩)
        go_ret
        exact ⟨ret_bool HF.out.symm, rfl⟩
      · go_wp2_with (go_at_call 29; (with_reducible refine (l00In_is _ _ _ _ hr _).mono ?_); rintro e w' ⟨rfl, rfl⟩)
        go_round
        case rel => exact ⟨k + 1, by omega, by go_num, hall.succ hr⟩
        case measure => simp [intOf]; omega
    · obtain rfl : k = n := by omega
      have HF : Hid (thr xs = btw (k : Int) 1 12) := by
        have := thr_yes (xs := xs) (by rw [hI.len]; exact hall)
        rw [hI.len] at this
        exact this
      go_wp2_with (go_at_call 29; (with_reducible refine (l00In_any _ _ _ _).mono ?_); rintro e w' ⟨rfl, rfl⟩)
      go_ret
      exact ⟨ret_bool HF.out.symm, rfl⟩
set_option maxHeartbeats 400000 in
theorem areThrows_any (A : Option Addr) (n c : Nat) (xs : List Int) (w : World) (hI : Ints w A n xs) :
    Calls Tryz.prog 115 #[.slice A n c] w fun e w' => e = .returned (.bool (thr xs)) ∧ w = w' := by
  have hs := hI.small
  go_enter Tryz.func115, Tryz.ntmps115
  go_wp2
  go_loop [7, 4] (fun i _ => ∃ k : Nat, k ≤ n ∧ i = .int .i64 k ∧ AllThr xs k) (fun i _ => n - (intOf i).toNat)
  case atStart => exact ⟨0, Nat.zero_le _, rfl, AllThr.zero xs⟩
  case round =>
    obtain ⟨k, hk, rfl, hall⟩ := hrel
    by_cases hlt : k < n
    · obtain ⟨b, off, rfl, hb, hcell⟩ := hI.at_ (by omega)
      have hc := hcell k hlt
      have hbd := hI.getD_bd k
      clear hcell
      cases hr : btw (xs[k]?.getD 0) 0 15
      · have HF : Hid (thr xs = false) := thr_no (by rw [hI.len]; exact hlt) hr
        go_wp2_with (go_at_call 21; (with_reducible refine (between_is _ _ _ _ hr _).mono ?_); rintro e w' ⟨rfl, rfl⟩)
        go_ret
        exact ⟨ret_bool HF.out.symm, rfl⟩
      · go_wp2_with (go_at_call 21; (with_reducible refine (between_is _ _ _ _ hr _).mono ?_); rintro e w' ⟨rfl, rfl⟩)
        go_round
        case rel => exact ⟨k + 1, by omega, by go_num, hall.succ hr⟩
        case measure => simp [intOf]; omega
    · obtain rfl : k = n := by omega
      have HF : Hid (thr xs = btw (k : Int) 1 12) := by
        have := thr_yes (xs := xs) (by rw [hI.len]; exact hall)
        rw [hI.len] at this
        exact this
      go_wp2_with (go_at_call 21; (with_reducible refine (between_any _ _ _ _).mono ?_); rintro e w' ⟨rfl, rfl⟩)
      go_ret
      exact ⟨ret_bool HF.out.symm, rfl⟩
end Go.Proofs.YtbihbhdaenhdoaaGreat
