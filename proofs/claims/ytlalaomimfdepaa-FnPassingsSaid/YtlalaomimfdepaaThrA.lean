/- ExchangePasses: contracts with a named result, for the law's walk. No condition but the stated bounds. -/
import Derived.Test.YtlalaomimfdepaaThr9
namespace Go.Proofs.Ytlalaomimfdepaa
set_option linter.unusedVariables false
set_option linter.unusedSimpArgs false
open Go.ChangeShapes Go.WideShapes Go.ChangeAt Go.RowKit Go.Joins Go.Deep
theorem spec_exch_is (A B : Option Addr) (n c m d : Nat) (ts us : List (Int × Bool)) (k : Int) (hk : -9223372036854775808 ≤ k ∧ k ≤ 9223372036854775807) (w : World) (hI : Thr w A n ts) (hJ : Thr w B m us) {ys zs : List (Int × Bool)} {r : Int} (h : exj ts us k = (ys, zs, r)) :
    Calls Try.prog 13 #[.agg #[.slice A n c, .slice B m d], .int .i64 k] w (RetPC w ys zs r) := by
  have := spec_exch A B n c m d ts us k hk w hI hJ
  rw [h] at this
  exact this
theorem impl_exch_is (A B : Option Addr) (n c m d : Nat) (ts us : List (Int × Bool)) (k : Int) (hk : -9223372036854775808 ≤ k ∧ k ≤ 9223372036854775807) (w : World) (hI : Thr w A n ts) (hJ : Thr w B m us) {ys zs : List (Int × Bool)} {r : Int} (h : exj ts us k = (ys, zs, r)) :
    Calls Try.prog 14 #[.agg #[.slice A n c, .slice B m d], .int .i64 k] w (RetPC w ys zs r) := by
  have := impl_exch A B n c m d ts us k hk w hI hJ
  rw [h] at this
  exact this
end Go.Proofs.Ytlalaomimfdepaa
