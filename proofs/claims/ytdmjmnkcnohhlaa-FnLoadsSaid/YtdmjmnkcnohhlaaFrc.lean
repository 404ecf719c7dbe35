/- Contracts of fractions: the greatest common divisor, MakeFraction, CompareFractions. No condition but the stated bounds. -/
import Derived.Test.YtdmjmnkcnohhlaaExt
import Derived.Outline
namespace Go.Proofs.Ytdmjmnkcnohhlaa
set_option linter.unusedVariables false
set_option linter.unusedSimpArgs false
open Go.RowKit

theorem gcd_step (a b : Int) : Int.gcd b (a % b) = Int.gcd a b := by
  have h := Int.emod_add_mul_ediv a b
  rw [Int.gcd_comm a b]
  conv => rhs; rw [← h]
  simp
theorem gcd_pos {a b : Int} (hb : 0 < b) : 0 < Int.gcd a b := Int.gcd_pos_iff.2 (.inr (by omega))

set_option maxHeartbeats 400000 in
theorem divisor_any (a b : Int) (w : World) (ha : 0 ≤ a) (hb : 0 ≤ b) (ha2 : a ≤ 9223372036854775807) (hb2 : b ≤ 9223372036854775807) :
    Calls Try.prog 73 #[.int .i64 a, .int .i64 b] w fun e w' => e = .returned (.int .i64 (Int.gcd a b)) ∧ Qt w w' := by
  go_enter Try.func73, Try.ntmps73
  go_wp2
  go_loopw [0, 1] (fun u v wr => ∃ x y : Int, u = .int .i64 x ∧ v = .int .i64 y ∧ 0 ≤ x ∧ 0 ≤ y ∧ x ≤ 9223372036854775807 ∧ y ≤ 9223372036854775807 ∧ Hid (Int.gcd x y = Int.gcd a b) ∧ Qt w wr) (fun _ v _ => (intOf v).toNat)
  case atStart => exact ⟨a, b, rfl, rfl, ha, hb, ha2, hb2, rfl, Qt.refl _⟩
  case round =>
    obtain ⟨x, y, rfl, rfl, hx, hy, hx2, hy2, HG, nn, rfl⟩ := hrel
    by_cases h0 : y = 0
    · have e0 : (y != 0) = false := by simp [h0]
      have HF : Hid ((x : Int) = (Int.gcd a b : Int)) := by rw [← HG.out, h0, Int.gcd_zero_right]; show x = _; omega
      have H0 := Lib.hid h0
      clear h0
      go_wp2
      go_ret
      exact ⟨ret_int HF.out, Qt.mk _ _⟩
    · have e0 : (y != 0) = true := by simp [h0]
      have hy' : 1 ≤ y := by omega
      have hm := Int.emod_nonneg x (show y ≠ 0 by omega)
      have hm' := Int.emod_lt_of_pos x (show 0 < y by omega)
      clear h0
      go_wp2
      go_quiet (fail)
      go_wp2
      go_roundw
      case rel => exact ⟨y, x % y, rfl, rfl, by omega, by omega, by omega, by omega, (gcd_step x y).trans HG.out, ⟨nn + nq, by rw [World.drewN_drewN]⟩⟩
      case measure => simp [intOf]; omega

/-- The numerator and the denominator in lowest terms of n over d, where 0 < d. -/
def fn1 (n d : Int) : Int := n.tdiv (Int.gcd n.natAbs d)
def fd1 (n d : Int) : Int := d / (Int.gcd n.natAbs d)
/-- .. where d is not 0. -/
def fnum (n d : Int) : Int := if d < 0 then fn1 (-n) (-d) else fn1 n d
def fden (n d : Int) : Int := if d < 0 then fd1 (-n) (-d) else fd1 n d
theorem gcd_le (a b : Int) (h : 0 < b) : (Int.gcd a b : Int) ≤ b := by
  have := Int.le_of_dvd h (Int.gcd_dvd_right (a := a) (b := b))
  omega
theorem tdiv_le (n : Int) (g : Nat) : -(n.natAbs : Int) ≤ n.tdiv g ∧ n.tdiv g ≤ (n.natAbs : Int) := by
  have h : (n.tdiv g).natAbs = n.natAbs / g := by rw [Int.natAbs_tdiv]; rfl
  have h2 := Nat.div_le_self n.natAbs g
  omega
theorem ediv_le (d : Int) (g : Nat) (h : 0 ≤ d) (hg : 1 ≤ g) : 0 ≤ d / g ∧ d / g ≤ d := by
  constructor
  · exact Int.ediv_nonneg h (by omega)
  · exact Int.ediv_le_self _ h
theorem divisor_is (a b : Int) (g : Nat) (w : World) (ha : 0 ≤ a) (hb : 0 ≤ b) (ha2 : a ≤ 9223372036854775807) (hb2 : b ≤ 9223372036854775807) (h : Hid (Int.gcd a b = g)) :
    Calls Try.prog 73 #[.int .i64 a, .int .i64 b] w fun e w' => e = .returned (.int .i64 (g : Int)) ∧ Qt w w' := by
  have := h.out
  subst this
  exact divisor_any a b w ha hb ha2 hb2
end Go.Proofs.Ytdmjmnkcnohhlaa
