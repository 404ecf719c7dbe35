/- Contracts of small functions over numbers: between, l00In, modulo, l02Mod. No condition but the stated bounds. -/
import Derived.Test.YtbihbhdaenhdoaaGreatFrame
namespace Go.Proofs.YtbihbhdaenhdoaaGreat
set_option linter.unusedVariables false
set_option linter.unusedSimpArgs false
open Go.RowKit

/-- lo ≤ n ≤ hi, as a Bool that the walk does not open. -/
def btw (n lo hi : Int) : Bool := decide (lo ≤ n ∧ n ≤ hi)
theorem btw_iff {n lo hi : Int} : btw n lo hi = true ↔ lo ≤ n ∧ n ≤ hi := by simp [btw]
theorem btw_not {n lo hi : Int} : btw n lo hi = false ↔ ¬ (lo ≤ n ∧ n ≤ hi) := by simp [btw]

theorem mod_law (a n : Int) (h : 0 < n) : (a.tmod n + n) % n = a % n := by
  have e := @Int.tmod_eq_emod a n
  rw [Int.add_emod_right, e]
  split
  · simp
  · have : (n.natAbs : Int) = n := by omega
    rw [this, Int.sub_emod_right]
    exact Int.emod_emod_of_dvd a (Int.dvd_refl n)
theorem tmod_bd (a n : Int) (h : 0 < n) : -n < a.tmod n ∧ a.tmod n < n := by
  have e := @Int.tmod_eq_emod a n
  have h0 := Int.emod_nonneg a (show n ≠ 0 by omega)
  have h1 := Int.emod_lt_of_pos a h
  rcases Int.lt_or_le a 0 with ha | ha
  · by_cases hd : n ∣ a
    · rw [Int.tmod_eq_zero_of_dvd hd]; omega
    · have h2 : a % n ≠ 0 := fun h' => hd (Int.dvd_of_emod_eq_zero h')
      have : (n.natAbs : Int) = n := by omega
      rw [e, if_neg (by rintro (h' | h'); · omega
                        · exact hd h'), this]
      omega
  · rw [Int.tmod_eq_emod_of_nonneg ha]; omega
theorem mul_bd {a b A B : Int} (ha : -A ≤ a ∧ a ≤ A) (hb : -B ≤ b ∧ b ≤ B) : -(A * B) ≤ a * b ∧ a * b ≤ A * B := by
  have hA : 0 ≤ A := by omega
  have hB : 0 ≤ B := by omega
  have h1 : a.natAbs ≤ A.natAbs := by omega
  have h2 : b.natAbs ≤ B.natAbs := by omega
  have h3 := Nat.mul_le_mul h1 h2
  rw [← Int.natAbs_mul, ← Int.natAbs_mul] at h3
  have h4 : 0 ≤ A * B := Int.mul_nonneg hA hB
  omega

theorem ret_int {k : IntKind} {a b : Int} (h : a = b) : Ending.returned (.int k a) = .returned (.int k b) := by rw [h]
theorem ret_bool {a b : Bool} (h : a = b) : Ending.returned (.bool a) = .returned (.bool b) := by rw [h]

theorem between_any (n lo hi : Int) (w : World) :
    Calls Tryz.prog 21 #[.int .i64 n, .int .i64 lo, .int .i64 hi] w fun e w' => e = .returned (.bool (btw n lo hi)) ∧ w = w' := by
  unfold btw
  by_cases h1 : lo ≤ n <;> by_cases h2 : n ≤ hi
  all_goals
    go_enter Tryz.func21, Tryz.ntmps21
    go_wp2
    go_ret
    exact ⟨by simp [h1, h2], rfl⟩
theorem between_is (n lo hi : Int) (v : Bool) (h : btw n lo hi = v) (w : World) :
    Calls Tryz.prog 21 #[.int .i64 n, .int .i64 lo, .int .i64 hi] w fun e w' => e = .returned (.bool v) ∧ w = w' := by
  subst h
  exact between_any n lo hi w
theorem l00In_any (n lo hi : Int) (w : World) :
    Calls Tryz.prog 29 #[.int .i64 n, .int .i64 lo, .int .i64 hi] w fun e w' => e = .returned (.bool (btw n lo hi)) ∧ w = w' := by
  unfold btw
  by_cases h1 : lo ≤ n <;> by_cases h2 : n ≤ hi
  all_goals
    go_enter Tryz.func29, Tryz.ntmps29
    go_wp2
    go_ret
    exact ⟨by simp [h1, h2], rfl⟩
theorem l00In_is (n lo hi : Int) (v : Bool) (h : btw n lo hi = v) (w : World) :
    Calls Tryz.prog 29 #[.int .i64 n, .int .i64 lo, .int .i64 hi] w fun e w' => e = .returned (.bool v) ∧ w = w' := by
  subst h
  exact l00In_any n lo hi w
theorem l02Mod_any (a n : Int) (w : World) (h : 0 < n) (hn : n ≤ 1000000000000) :
    Calls Tryz.prog 113 #[.int .i64 a, .int .i64 n] w fun e w' => e = .returned (.int .i64 (a % n)) ∧ w = w' := by
  have hb := tmod_bd a n h
  go_enter Tryz.func113, Tryz.ntmps113
  go_wp2
  go_ret
  exact ⟨ret_int (mod_law a n h), rfl⟩
theorem l02Mod_is (a n r : Int) (w : World) (h : 0 < n) (hn : n ≤ 1000000000000) (hr : a % n = r) :
    Calls Tryz.prog 113 #[.int .i64 a, .int .i64 n] w fun e w' => e = .returned (.int .i64 r) ∧ w = w' := by
  subst hr
  exact l02Mod_any a n w h hn
end Go.Proofs.YtbihbhdaenhdoaaGreat
