/- Contracts of fractions: the greatest common divisor, MakeFraction, CompareFractions. No condition but the stated bounds. -/
import Derived.Test.YtinkaglngblddaaDoorExt
import Derived.Outline
namespace Go.Proofs.YtinkaglngblddaaDoor
set_option linter.unusedVariables false
set_option linter.unusedSimpArgs false
open Go.RowKit

theorem gcd_step (a b : Int) : Int.gcd b (a % b) = Int.gcd a b := by
  have h := Int.emod_add_mul_ediv a b
  rw [Int.gcd_comm a b]
  conv => rhs; rw [← h]
  simp
theorem gcd_pos {a b : Int} (hb : 0 < b) : 0 < Int.gcd a b := Int.gcd_pos_iff.2 (.inr (by omega))


/-- The numerator and the denominator in lowest terms of n over d, where 0 < d. -/
def fn1 (n d : Int) : Int := n.tdiv (Int.gcd n.natAbs d)
def fd1 (n d : Int) : Int := d / (Int.gcd n.natAbs d)
/-- .. where d is not 0. -/
def fnum (n d : Int) : Int := if d < 0 then fn1 (-n) (-d) else fn1 n d
def fden (n d : Int) : Int := if d < 0 then fd1 (-n) (-d) else fd1 n d
theorem gcd_le (a b : Int) (h : 0 < b) : (Int.gcd a b : Int) ≤ b := by
  have := Int.le_of_dvd h (Int.gcd_dvd_right (a := a) (b := b))
  omega
theorem tdiv_le (n : Int) (g : Nat) : -(n.natAbs : Int) ≤ n.tdiv g ∧ n.tdiv g ≤ (n.natAbs : Int) := by
  have h : (n.tdiv g).natAbs = n.natAbs / g := by rw [Int.natAbs_tdiv]; rfl
  have h2 := Nat.div_le_self n.natAbs g
  omega
theorem ediv_le (d : Int) (g : Nat) (h : 0 ≤ d) (hg : 1 ≤ g) : 0 ≤ d / g ∧ d / g ≤ d := by
  constructor
  · exact Int.ediv_nonneg h (by omega)
  · exact Int.ediv_le_self _ h
end Go.Proofs.YtinkaglngblddaaDoor
