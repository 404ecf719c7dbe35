/- Fractions in lowest terms: plain laws of fnum, fden. -/
import Derived.Test.YtenljcmaljeffaaDoorFrm
import Derived.Test.YtenljcmaljeffaaDoorCmp
namespace Go.Proofs.YtenljcmaljeffaaDoor
set_option linter.unusedVariables false
set_option linter.unusedSimpArgs false
open Go.RowKit

theorem low_ex (n d : Int) (hd : 0 < d) : ∃ g : Int, 1 ≤ g ∧ n = g * fn1 n d ∧ d = g * fd1 n d ∧ 1 ≤ fd1 n d ∧ Int.gcd (fn1 n d).natAbs (fd1 n d) = 1 := by
  obtain ⟨g, hg⟩ : ∃ g : Nat, Int.gcd n.natAbs d = g := ⟨_, rfl⟩
  have hg0 : 0 < g := by
    rw [← hg]
    exact Nat.pos_of_ne_zero (fun h => by have := (Int.gcd_eq_zero_iff.1 h).2; omega)
  have h1 : (g : Int) ∣ (n.natAbs : Int) := by rw [← hg]; exact Int.gcd_dvd_left _ _
  have h2 : (g : Int) ∣ d := by rw [← hg]; exact Int.gcd_dvd_right _ _
  have h1' : (g : Int) ∣ n := Int.dvd_natAbs.1 h1
  have e1 : n = g * fn1 n d := by
    unfold fn1
    rw [hg]
    exact (Int.mul_tdiv_cancel' h1').symm
  have e2 : d = g * fd1 n d := by
    unfold fd1
    rw [hg]
    exact (Int.mul_ediv_cancel' h2).symm
  generalize fn1 n d = p at *
  generalize fd1 n d = q at *
  have hq : 1 ≤ q := by
    have h3 : 0 < (g : Int) * q := by rw [← e2]; exact hd
    rcases Int.lt_or_le 0 q with h | h
    · exact h
    · have := Int.mul_le_mul_of_nonneg_left h (show (0 : Int) ≤ g by omega)
      omega
  refine ⟨g, by omega, e1, e2, hq, ?_⟩
  have h4 : Int.gcd n.natAbs d = g * Int.gcd p.natAbs q := by
    conv => lhs; rw [e1, e2]
    rw [Int.natAbs_mul]
    simp only [Int.natAbs_natCast, Int.natCast_mul]
    rw [Int.gcd_mul_left]
    simp
  rw [hg] at h4
  have h5 : g * 1 = g * Int.gcd p.natAbs q := by omega
  exact (Nat.eq_of_mul_eq_mul_left hg0 h5).symm
theorem low_seven (p q : Int) (hq : 1 ≤ q) (h : Int.gcd p.natAbs q = 1) : fnum (p * 7) (q * 7) = p ∧ fden (p * 7) (q * 7) = q := by
  have hg : Int.gcd (p * 7).natAbs (q * 7) = 7 := by
    rw [Int.natAbs_mul]
    simp only [Int.natCast_mul]
    show Int.gcd ((p.natAbs : Int) * 7) (q * 7) = 7
    rw [Int.gcd_mul_right, h]
    rfl
  unfold fnum fden fn1 fd1
  rw [if_neg (by omega), if_neg (by omega), hg]
  exact ⟨Int.mul_tdiv_cancel _ (by decide), Int.mul_ediv_cancel _ (by decide)⟩
theorem low_neg (n d : Int) (hd : 0 < d) : fnum (-n) (-d) = fn1 n d ∧ fden (-n) (-d) = fd1 n d := by
  unfold fnum fden
  rw [if_pos (by omega), if_pos (by omega), Int.neg_neg, Int.neg_neg]
  exact ⟨rfl, rfl⟩
theorem low_pos (n d : Int) (hd : 0 < d) : fnum n d = fn1 n d ∧ fden n d = fd1 n d := by
  unfold fnum fden
  rw [if_neg (by omega), if_neg (by omega)]
  exact ⟨rfl, rfl⟩
theorem sgn_scale (k a b : Int) (hk : 0 < k) : sgn (k * a) (k * b) = sgn a b := by
  unfold sgn
  have h1 : k * a < k * b ↔ a < b := ⟨fun h => Int.lt_of_mul_lt_mul_left h (by omega), fun h => Int.mul_lt_mul_of_pos_left h hk⟩
  have h2 : k * b < k * a ↔ b < a := ⟨fun h => Int.lt_of_mul_lt_mul_left h (by omega), fun h => Int.mul_lt_mul_of_pos_left h hk⟩
  simp only [h1, h2]
/-- All that the law of fractions says. -/
theorem frac_all (a b c d : Int) (hb : 0 < b) (hd : 0 < d) :
    ∃ nx dx ny dy P R : Int, fn1 a b = nx ∧ fd1 a b = dx ∧ fn1 c d = ny ∧ fd1 c d = dy ∧ (1 ≤ dx ∧ dx ≤ b) ∧ (1 ≤ dy ∧ dy ≤ d) ∧ nx * b = P ∧ a * dx = P ∧ ny * d = R ∧ c * dy = R ∧
      (nx.natAbs ≤ a.natAbs ∧ ny.natAbs ≤ c.natAbs) ∧ (fnum (nx * 7) (dx * 7) = nx ∧ fden (nx * 7) (dx * 7) = dx) ∧ sgn (nx * dy) (ny * dx) = sgn (a * d) (c * b) := by
  obtain ⟨g, hg, e1, e2, hq, hgc⟩ := low_ex a b hb
  obtain ⟨k, hk, u1, u2, hv, _⟩ := low_ex c d hd
  generalize fn1 a b = nx at *
  generalize fd1 a b = dx at *
  generalize fn1 c d = ny at *
  generalize fd1 c d = dy at *
  have hle : ∀ (g q : Int), 1 ≤ g → 1 ≤ q → q ≤ g * q := fun g q h1 h2 => by
    have := Int.mul_le_mul_of_nonneg_right h1 (show 0 ≤ q by omega)
    omega
  have hna : ∀ (g p : Int), 1 ≤ g → p.natAbs ≤ (g * p).natAbs := fun g p h1 => by
    rw [Int.natAbs_mul]
    exact Nat.le_mul_of_pos_left _ (by omega)
  refine ⟨nx, dx, ny, dy, nx * b, ny * d, rfl, rfl, rfl, rfl, ⟨hq, ?_⟩, ⟨hv, ?_⟩, rfl, ?_, rfl, ?_, ⟨?_, ?_⟩, low_seven nx dx hq hgc, ?_⟩
  · rw [e2]; exact hle g dx hg hq
  · rw [u2]; exact hle k dy hk hv
  · rw [e1, e2]
    simp only [Int.mul_comm, Int.mul_left_comm, Int.mul_assoc]
  · rw [u1, u2]
    simp only [Int.mul_comm, Int.mul_left_comm, Int.mul_assoc]
  · rw [e1]; exact hna g nx hg
  · rw [u1]; exact hna k ny hk
  · have e3 : a * d = (g * k) * (nx * dy) := by rw [e1, u2]; simp only [Int.mul_comm, Int.mul_left_comm, Int.mul_assoc]
    have e4 : c * b = (g * k) * (ny * dx) := by rw [u1, e2]; simp only [Int.mul_comm, Int.mul_left_comm, Int.mul_assoc]
    rw [e3, e4, sgn_scale _ _ _ (Int.mul_pos (by omega) (by omega))]
theorem sgn_swap (a b : Int) : sgn b a = -sgn a b := by
  unfold sgn
  split <;> split <;> first | omega | (split <;> omega) | rfl
end Go.Proofs.YtenljcmaljeffaaDoor
