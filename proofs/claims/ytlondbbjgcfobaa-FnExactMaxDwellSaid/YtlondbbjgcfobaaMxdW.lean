/- The walk of laws.FnExactMaxDwell. No condition. -/
import Derived.Test.YtlondbbjgcfobaaTcd
import Derived.Test.YtlondbbjgcfobaaToI
namespace Go.Proofs.Ytlondbbjgcfobaa.fnExactMaxDwell
set_option linter.unusedVariables false
open Go.RowKit
set_option maxHeartbeats 1000000 in
theorem walk (A : Option Addr) (n c : Nat) (xs : List Int) (bt : Int) (_hbt : -9223372036854775808 ≤ bt ∧ bt ≤ 9223372036854775807) (w : World) (hI : Ints w A n xs) :
    Calls Try.prog 7 #[.slice A n c, .int .i64 bt] w fun e w' => e = .returned (.bool true) ∧ Below w.heap.size w w' := by
  have hsm := hI.small
  by_cases hs : n ≤ 1048576
  ·
    cases hv : vpat xs
    ·
      go_enter Try.func7, Try.ntmps7
      go_wp2_with fail
      (with_reducible refine (toInt64S_ex A n c xs _ hI hs).mono ?_)
      rintro e w1 ⟨A1, c1, rfl, ho1⟩
      have hI1 := ho1.ints hI.len (by omega) hI.bds
      go_wp2_with fail
      (with_reducible refine (specMaxDwell_no _ n _ xs bt _ hI1 hv).mono ?_)
      rintro e w2 ⟨rfl, hx2⟩
      have hI2 := hI.ext (ho1.ext.trans hx2)
      go_wp2_with fail
      (with_reducible refine (toInt64S_ex A n c xs _ hI2 hs).mono ?_)
      rintro e w3 ⟨A3, c3, rfl, ho3⟩
      have hI3 := ho3.ints hI.len (by omega) hI.bds
      go_wp2_with fail
      (with_reducible refine (implMaxDwell_no _ n _ xs bt _ hI3 hv).mono ?_)
      rintro e w4 ⟨rfl, hx4⟩
      have hI4 := hI2.ext (ho3.ext.trans hx4)
      go_wp2_with fail
      (with_reducible refine (toInt64S_ex A n c xs _ hI4 hs).mono ?_)
      rintro e w5 ⟨A5, c5, rfl, ho5⟩
      have hI5 := ho5.ints hI.len (by omega) hI.bds
      have hI6 := hI3.ext (hx4.trans ho5.ext)
      go_wp2_with fail
      (with_reducible refine (eqInt64S_same _ _ n _ _ xs _ hI6 hI5).mono ?_)
      rintro e w6 ⟨rfl, hq6⟩
      go_wp2
      go_ret
      exact ⟨rfl, Ext.below (((ho1.ext.trans hx2).trans ((ho3.ext.trans hx4).trans ho5.ext)).qt hq6)⟩
    cases hb : btw bt 2 30
    ·
      go_enter Try.func7, Try.ntmps7
      go_wp2_with fail
      (with_reducible refine (toInt64S_ex A n c xs _ hI hs).mono ?_)
      rintro e w1 ⟨A1, c1, rfl, ho1⟩
      have hI1 := ho1.ints hI.len (by omega) hI.bds
      go_wp2_with fail
      (with_reducible refine (specMaxDwell_range _ n _ xs bt _ hI1 hv hb).mono ?_)
      rintro e w2 ⟨rfl, hx2⟩
      have hI2 := hI.ext (ho1.ext.trans hx2)
      go_wp2_with fail
      (with_reducible refine (toInt64S_ex A n c xs _ hI2 hs).mono ?_)
      rintro e w3 ⟨A3, c3, rfl, ho3⟩
      have hI3 := ho3.ints hI.len (by omega) hI.bds
      go_wp2_with fail
      (with_reducible refine (implMaxDwell_range _ n _ xs bt _ hI3 hv hb).mono ?_)
      rintro e w4 ⟨rfl, hx4⟩
      have hI4 := hI2.ext (ho3.ext.trans hx4)
      go_wp2_with fail
      (with_reducible refine (toInt64S_ex A n c xs _ hI4 hs).mono ?_)
      rintro e w5 ⟨A5, c5, rfl, ho5⟩
      have hI5 := ho5.ints hI.len (by omega) hI.bds
      have hI6 := hI3.ext (hx4.trans ho5.ext)
      go_wp2_with fail
      (with_reducible refine (eqInt64S_same _ _ n _ _ xs _ hI6 hI5).mono ?_)
      rintro e w6 ⟨rfl, hq6⟩
      go_wp2
      go_ret
      exact ⟨rfl, Ext.below (((ho1.ext.trans hx2).trans ((ho3.ext.trans hx4).trans ho5.ext)).qt hq6)⟩
    ·
      go_enter Try.func7, Try.ntmps7
      go_wp2_with fail
      (with_reducible refine (toInt64S_ex A n c xs _ hI hs).mono ?_)
      rintro e w1 ⟨A1, c1, rfl, ho1⟩
      have hI1 := ho1.ints hI.len (by omega) hI.bds
      go_wp2_with fail
      (with_reducible refine (specMaxDwell_yes _ n _ xs bt _ hI1 hv hb).mono ?_)
      rintro e w2 ⟨rfl, hx2⟩
      have hI2 := hI.ext (ho1.ext.trans hx2)
      go_wp2_with fail
      (with_reducible refine (toInt64S_ex A n c xs _ hI2 hs).mono ?_)
      rintro e w3 ⟨A3, c3, rfl, ho3⟩
      have hI3 := ho3.ints hI.len (by omega) hI.bds
      go_wp2_with fail
      (with_reducible refine (implMaxDwell_yes _ n _ xs bt _ hI3 hv hb).mono ?_)
      rintro e w4 ⟨rfl, hx4⟩
      have hI4 := hI2.ext (ho3.ext.trans hx4)
      go_wp2_with fail
      (with_reducible refine (toInt64S_ex A n c xs _ hI4 hs).mono ?_)
      rintro e w5 ⟨A5, c5, rfl, ho5⟩
      have hI5 := ho5.ints hI.len (by omega) hI.bds
      have hI6 := hI3.ext (hx4.trans ho5.ext)
      go_wp2_with fail
      (with_reducible refine (eqInt64S_same _ _ n _ _ xs _ hI6 hI5).mono ?_)
      rintro e w6 ⟨rfl, hq6⟩
      go_wp2
      go_ret
      exact ⟨rfl, Ext.below (((ho1.ext.trans hx2).trans ((ho3.ext.trans hx4).trans ho5.ext)).qt hq6)⟩
  · go_enter Try.func7, Try.ntmps7
    go_wp2
    go_ret
    exact ⟨rfl, Below.refl _ _⟩
end Go.Proofs.Ytlondbbjgcfobaa.fnExactMaxDwell
