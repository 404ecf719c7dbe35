/- The walk of laws.FnExactHarderBy. No condition. -/
import Derived.Test.YtlondbbjgcfobaaHrd
namespace Go.Proofs.Ytlondbbjgcfobaa.fnExactHarderBy
set_option linter.unusedVariables false
open Go.RowKit
set_option maxHeartbeats 2000000 in
theorem walk (A : Option Addr) (n c : Nat) (xs : List Int) (B : Option Addr) (m d : Nat) (ys : List Int) (w : World) (hI : Ints w A n xs) (hJ : Ints w B m ys) :
    Calls Try.prog 12 #[.slice A n c, .slice B m d] w fun e w' => e = .returned (.bool true) ∧ Below w.heap.size w w' := by
  have hsm := hI.small
  have hsm2 := hJ.small
  by_cases hs : n ≤ 1048576
  · by_cases hs2 : m ≤ 1048576
    · cases hr : (vpat xs && vpat ys)
      ·
        go_enter Try.func12, Try.ntmps12
        go_wp2_with fail
        (with_reducible refine (toInt64S_ex A n c xs _ (hI.ext (by with_reducible (repeat (first | exact Ext.refl _ | apply Ext.drewN | apply Ext.drew | apply Ext.alloc | (refine Ext.set ?_ (by first | (simp; done) | (simp; omega) | omega) _) | (refine Ext.trans ?_ (by assumption)))))) hs).mono ?_)
        rintro e w1 ⟨A1, c1, rfl, ho1⟩
        have hx1 := ho1.ext
        have J1 := ho1.ints hI.len (by omega) hI.bds
        go_wp2_with fail
        (with_reducible refine (toInt64S_ex B m d ys _ (hJ.ext (by with_reducible (repeat (first | exact Ext.refl _ | apply Ext.drewN | apply Ext.drew | apply Ext.alloc | (refine Ext.set ?_ (by first | (simp; done) | (simp; omega) | omega) _) | (refine Ext.trans ?_ (by assumption)))))) hs2).mono ?_)
        rintro e w2 ⟨A2, c2, rfl, ho2⟩
        have hx2 := ho2.ext
        have J2 := ho2.ints hJ.len (by omega) hJ.bds
        go_wp2_with fail
        (with_reducible refine (specHarderBy_no _ _ n m _ _ xs ys _ (J1.ext hx2) J2 hr).mono ?_)
        rintro e w3 ⟨rfl, hx3⟩
        go_wp2_with fail
        (with_reducible refine (toInt64S_ex A n c xs _ (hI.ext (by with_reducible (repeat (first | exact Ext.refl _ | apply Ext.drewN | apply Ext.drew | apply Ext.alloc | (refine Ext.set ?_ (by first | (simp; done) | (simp; omega) | omega) _) | (refine Ext.trans ?_ (by assumption)))))) hs).mono ?_)
        rintro e w4 ⟨A4, c4, rfl, ho4⟩
        have hx4 := ho4.ext
        have J4 := ho4.ints hI.len (by omega) hI.bds
        go_wp2_with fail
        (with_reducible refine (toInt64S_ex B m d ys _ (hJ.ext (by with_reducible (repeat (first | exact Ext.refl _ | apply Ext.drewN | apply Ext.drew | apply Ext.alloc | (refine Ext.set ?_ (by first | (simp; done) | (simp; omega) | omega) _) | (refine Ext.trans ?_ (by assumption)))))) hs2).mono ?_)
        rintro e w5 ⟨A5, c5, rfl, ho5⟩
        have hx5 := ho5.ext
        have J5 := ho5.ints hJ.len (by omega) hJ.bds
        go_wp2_with fail
        (with_reducible refine (implHarderBy_no _ _ n m _ _ xs ys _ (J4.ext hx5) J5 hr).mono ?_)
        rintro e w6 ⟨rfl, hx6⟩
        go_wp2_with fail
        (with_reducible refine (toInt64S_ex A n c xs _ (hI.ext (by with_reducible (repeat (first | exact Ext.refl _ | apply Ext.drewN | apply Ext.drew | apply Ext.alloc | (refine Ext.set ?_ (by first | (simp; done) | (simp; omega) | omega) _) | (refine Ext.trans ?_ (by assumption)))))) hs).mono ?_)
        rintro e w7 ⟨A7, c7, rfl, ho7⟩
        have hx7 := ho7.ext
        have J7 := ho7.ints hI.len (by omega) hI.bds
        go_wp2_with fail
        (with_reducible refine (eqInt64S_same _ _ n _ _ xs _ (J4.ext (hx5.trans (hx6.trans hx7))) J7).mono ?_)
        rintro e w8 ⟨rfl, hq8⟩
        have hx8 : Ext w7 w8 := (Ext.refl w7).qt hq8
        go_wp2_with fail
        (with_reducible refine (toInt64S_ex B m d ys _ (hJ.ext (by with_reducible (repeat (first | exact Ext.refl _ | apply Ext.drewN | apply Ext.drew | apply Ext.alloc | (refine Ext.set ?_ (by first | (simp; done) | (simp; omega) | omega) _) | (refine Ext.trans ?_ (by assumption)))))) hs2).mono ?_)
        rintro e w9 ⟨A9, c9, rfl, ho9⟩
        have hx9 := ho9.ext
        have J9 := ho9.ints hJ.len (by omega) hJ.bds
        go_wp2_with fail
        (with_reducible refine (eqInt64S_same _ _ m _ _ ys _ (J5.ext (hx6.trans (hx7.trans (hx8.trans hx9)))) J9).mono ?_)
        rintro e w10 ⟨rfl, hq10⟩
        go_wp2
        go_ret
        exact ⟨rfl, Ext.below (Ext.qt (by with_reducible (repeat (first | exact Ext.refl _ | apply Ext.drewN | apply Ext.drew | apply Ext.alloc | (refine Ext.set ?_ (by first | (simp; done) | (simp; omega) | omega) _) | (refine Ext.trans ?_ (by assumption))))) hq10)⟩
      ·
        go_enter Try.func12, Try.ntmps12
        go_wp2_with fail
        (with_reducible refine (toInt64S_ex A n c xs _ (hI.ext (by with_reducible (repeat (first | exact Ext.refl _ | apply Ext.drewN | apply Ext.drew | apply Ext.alloc | (refine Ext.set ?_ (by first | (simp; done) | (simp; omega) | omega) _) | (refine Ext.trans ?_ (by assumption)))))) hs).mono ?_)
        rintro e w1 ⟨A1, c1, rfl, ho1⟩
        have hx1 := ho1.ext
        have J1 := ho1.ints hI.len (by omega) hI.bds
        go_wp2_with fail
        (with_reducible refine (toInt64S_ex B m d ys _ (hJ.ext (by with_reducible (repeat (first | exact Ext.refl _ | apply Ext.drewN | apply Ext.drew | apply Ext.alloc | (refine Ext.set ?_ (by first | (simp; done) | (simp; omega) | omega) _) | (refine Ext.trans ?_ (by assumption)))))) hs2).mono ?_)
        rintro e w2 ⟨A2, c2, rfl, ho2⟩
        have hx2 := ho2.ext
        have J2 := ho2.ints hJ.len (by omega) hJ.bds
        go_wp2_with fail
        (with_reducible refine (specHarderBy_yes _ _ n m _ _ xs ys _ (J1.ext hx2) J2 hr).mono ?_)
        rintro e w3 ⟨rfl, hx3⟩
        go_wp2_with fail
        (with_reducible refine (toInt64S_ex A n c xs _ (hI.ext (by with_reducible (repeat (first | exact Ext.refl _ | apply Ext.drewN | apply Ext.drew | apply Ext.alloc | (refine Ext.set ?_ (by first | (simp; done) | (simp; omega) | omega) _) | (refine Ext.trans ?_ (by assumption)))))) hs).mono ?_)
        rintro e w4 ⟨A4, c4, rfl, ho4⟩
        have hx4 := ho4.ext
        have J4 := ho4.ints hI.len (by omega) hI.bds
        go_wp2_with fail
        (with_reducible refine (toInt64S_ex B m d ys _ (hJ.ext (by with_reducible (repeat (first | exact Ext.refl _ | apply Ext.drewN | apply Ext.drew | apply Ext.alloc | (refine Ext.set ?_ (by first | (simp; done) | (simp; omega) | omega) _) | (refine Ext.trans ?_ (by assumption)))))) hs2).mono ?_)
        rintro e w5 ⟨A5, c5, rfl, ho5⟩
        have hx5 := ho5.ext
        have J5 := ho5.ints hJ.len (by omega) hJ.bds
        go_wp2_with fail
        (with_reducible refine (implHarderBy_yes _ _ n m _ _ xs ys _ (J4.ext hx5) J5 hr).mono ?_)
        rintro e w6 ⟨rfl, hx6⟩
        go_wp2_with fail
        (with_reducible refine (toInt64S_ex A n c xs _ (hI.ext (by with_reducible (repeat (first | exact Ext.refl _ | apply Ext.drewN | apply Ext.drew | apply Ext.alloc | (refine Ext.set ?_ (by first | (simp; done) | (simp; omega) | omega) _) | (refine Ext.trans ?_ (by assumption)))))) hs).mono ?_)
        rintro e w7 ⟨A7, c7, rfl, ho7⟩
        have hx7 := ho7.ext
        have J7 := ho7.ints hI.len (by omega) hI.bds
        go_wp2_with fail
        (with_reducible refine (eqInt64S_same _ _ n _ _ xs _ (J4.ext (hx5.trans (hx6.trans hx7))) J7).mono ?_)
        rintro e w8 ⟨rfl, hq8⟩
        have hx8 : Ext w7 w8 := (Ext.refl w7).qt hq8
        go_wp2_with fail
        (with_reducible refine (toInt64S_ex B m d ys _ (hJ.ext (by with_reducible (repeat (first | exact Ext.refl _ | apply Ext.drewN | apply Ext.drew | apply Ext.alloc | (refine Ext.set ?_ (by first | (simp; done) | (simp; omega) | omega) _) | (refine Ext.trans ?_ (by assumption)))))) hs2).mono ?_)
        rintro e w9 ⟨A9, c9, rfl, ho9⟩
        have hx9 := ho9.ext
        have J9 := ho9.ints hJ.len (by omega) hJ.bds
        go_wp2_with fail
        (with_reducible refine (eqInt64S_same _ _ m _ _ ys _ (J5.ext (hx6.trans (hx7.trans (hx8.trans hx9)))) J9).mono ?_)
        rintro e w10 ⟨rfl, hq10⟩
        go_wp2
        go_ret
        exact ⟨rfl, Ext.below (Ext.qt (by with_reducible (repeat (first | exact Ext.refl _ | apply Ext.drewN | apply Ext.drew | apply Ext.alloc | (refine Ext.set ?_ (by first | (simp; done) | (simp; omega) | omega) _) | (refine Ext.trans ?_ (by assumption))))) hq10)⟩
    · go_enter Try.func12, Try.ntmps12
      go_wp2
      go_ret
      exact ⟨rfl, Below.refl _ _⟩
  · go_enter Try.func12, Try.ntmps12
    go_wp2
    go_ret
    exact ⟨rfl, Below.refl _ _⟩
end Go.Proofs.Ytlondbbjgcfobaa.fnExactHarderBy
