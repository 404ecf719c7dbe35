/- The landings of a list of throws, and whether they differ. Contracts of landings. No condition but the stated bounds. -/
import Derived.Test.YtlalaomimfdepaaPat
import Derived.OwnWalk
import Derived.Outline
namespace Go.Proofs.Ytlalaomimfdepaa
set_option linter.unusedVariables false
set_option linter.unusedSimpArgs false
open Go.RowKit

/-- Where the throw i lands, by the period. -/
def lnd (xs : List Int) (i : Nat) : Int := ((i : Int) + xs[i]?.getD 0) % (xs.length : Int)
def lnds (xs : List Int) (k : Nat) : List Int := (List.range k).map (lnd xs)
theorem lnds_len (xs : List Int) (k : Nat) : (lnds xs k).length = k := by simp [lnds]
theorem lnds_succ (xs : List Int) (k : Nat) : lnds xs (k + 1) = lnds xs k ++ [lnd xs k] := by simp [lnds, List.range_succ]
theorem lnds_get {xs : List Int} {k i : Nat} (h : i < k) : (lnds xs k)[i]?.getD 0 = lnd xs i := by simp [lnds, h]
theorem lnd_bd {xs : List Int} (i : Nat) (h : 1 ≤ xs.length) (h2 : xs.length ≤ 12) : 0 ≤ lnd xs i ∧ lnd xs i ≤ 12 := by
  unfold lnd
  have h1 := Int.emod_nonneg ((i : Int) + xs[i]?.getD 0) (show (xs.length : Int) ≠ 0 by omega)
  have h3 := Int.emod_lt_of_pos ((i : Int) + xs[i]?.getD 0) (show 0 < (xs.length : Int) by omega)
  omega
end Go.Proofs.Ytlalaomimfdepaa
