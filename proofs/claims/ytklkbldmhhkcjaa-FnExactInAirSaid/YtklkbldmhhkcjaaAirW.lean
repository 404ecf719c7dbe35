/- The walk of laws.FnExactInAir. No condition. -/
import Derived.Test.YtklkbldmhhkcjaaAir
import Derived.Test.YtklkbldmhhkcjaaToI
import Derived.Deep.RegionHeld3
namespace Go.Proofs.Ytklkbldmhhkcjaa.fnExactInAir
set_option linter.unusedVariables false
set_option linter.unusedSimpArgs false
open Go.RowKit
set_option maxHeartbeats 2000000 in
theorem walk (A : Option Addr) (n c : Nat) (xs : List Int) (b : Int) (_hb : -9223372036854775808 ≤ b ∧ b ≤ 9223372036854775807) (d : Int) (_hd : -9223372036854775808 ≤ d ∧ d ≤ 9223372036854775807) (t : Int) (_ht : -9223372036854775808 ≤ t ∧ t ≤ 9223372036854775807) (w : World) (hI : Ints w A n xs) :
    Calls Try.prog 3 #[.slice A n c, .agg #[.int .i64 b, .int .i64 d], .int .i64 t] w fun e w' => e = .returned (.bool true) ∧ Below w.heap.size w w' := by
  have hsm := hI.small
  by_cases hs : n ≤ 1048576
  ·
    by_cases hr : tcd (vpat xs) (vtim b d && btw t 0 3000) (fits xs b d) = 0
    ·
      go_enter Try.func3, Try.ntmps3
      go_wp2
      go_region_held3 (fun wz => wz.cell? ⟨w.heap.size, 0, none⟩ = some (.int .i64 b) ∧ wz.cell? ⟨w.heap.size, 1, none⟩ = some (.int .i64 d)) (go_keep)
        (first | (go_at_call 8; (with_reducible refine (toInt64S_ex A n c xs _ (hI.ext (by with_reducible (repeat (first | exact Ext.refl _ | apply Ext.drewN | apply Ext.drew | apply Ext.alloc | (refine Ext.set ?_ (by first | (simp; done) | (simp; omega) | omega) _) | (refine Ext.trans ?_ (by assumption)))))) hs).mono ?_); rintro e w1 ⟨A1, c1, rfl, ho1⟩; have hx1 := ho1.ext; have J1 := ho1.ints hI.len (by omega) hI.bds; have hz_w1 := hx1.size; (try simp at hz_w1); (try (have hq0_w1 : w.heap.size < w1.heap.size := by omega)); (try (have hc0_w1 : ∀ o, w1.cell? ⟨w.heap.size, o, none⟩ = _ := fun o => hx1.cells.1 _ o (by first | (simp; done) | (simp; omega) | omega)))) | (go_at_call 9; (with_reducible refine (toTiming_any b d _).mono ?_); rintro e w2 ⟨rfl, hx2⟩; have hz_w2 := hx2.size; (try simp at hz_w2); (try (have hq0_w2 : w.heap.size < w2.heap.size := by omega)); (try (have hc0_w2 : ∀ o, w2.cell? ⟨w.heap.size, o, none⟩ = _ := fun o => hx2.cells.1 _ o (by first | (simp; done) | (simp; omega) | omega)))) | (go_at_call 7; (with_reducible refine (specInAir_yes _ n _ xs b d t _ (J1.ext hx2) hr).mono ?_); rintro e w3 ⟨rfl, hx3⟩; have hz_w3 := hx3.size; (try simp at hz_w3); (try (have hq0_w3 : w.heap.size < w3.heap.size := by omega)); (try (have hc0_w3 : ∀ o, w3.cell? ⟨w.heap.size, o, none⟩ = _ := fun o => hx3.cells.1 _ o (by first | (simp; done) | (simp; omega) | omega)))))
      go_wp2_with fail
      (with_reducible refine (toInt64S_ex A n c xs _ (hI.ext (by with_reducible (repeat (first | exact Ext.refl _ | apply Ext.drewN | apply Ext.drew | apply Ext.alloc | (refine Ext.set ?_ (by first | (simp; done) | (simp; omega) | omega) _) | (refine Ext.trans ?_ (by assumption)))))) hs).mono ?_)
      rintro e w4 ⟨A4, c4, rfl, ho4⟩
      have hx4 := ho4.ext
      have J4 := ho4.ints hI.len (by omega) hI.bds
      have hz_w4 := hx4.size
      (try simp at hz_w4)
      (try (have hq0_w4 : w.heap.size < w4.heap.size := by omega))
      (try (have hc0_w4 : ∀ o, w4.cell? ⟨w.heap.size, o, none⟩ = _ := fun o => hx4.cells.1 _ o (by first | (simp; done) | (simp; omega) | omega)))
      go_wp2_with fail
      (with_reducible refine (toTiming_any b d _).mono ?_)
      rintro e w5 ⟨rfl, hx5⟩
      have hz_w5 := hx5.size
      (try simp at hz_w5)
      (try (have hq0_w5 : w.heap.size < w5.heap.size := by omega))
      (try (have hc0_w5 : ∀ o, w5.cell? ⟨w.heap.size, o, none⟩ = _ := fun o => hx5.cells.1 _ o (by first | (simp; done) | (simp; omega) | omega)))
      go_wp2_with fail
      (with_reducible refine (implInAir_yes _ n _ xs b d t _ (J4.ext hx5) hr).mono ?_)
      rintro e w6 ⟨rfl, hx6⟩
      have hz_w6 := hx6.size
      (try simp at hz_w6)
      (try (have hq0_w6 : w.heap.size < w6.heap.size := by omega))
      (try (have hc0_w6 : ∀ o, w6.cell? ⟨w.heap.size, o, none⟩ = _ := fun o => hx6.cells.1 _ o (by first | (simp; done) | (simp; omega) | omega)))
      go_wp2_with fail
      (with_reducible refine (toInt64S_ex A n c xs _ (hI.ext (by with_reducible (repeat (first | exact Ext.refl _ | apply Ext.drewN | apply Ext.drew | apply Ext.alloc | (refine Ext.set ?_ (by first | (simp; done) | (simp; omega) | omega) _) | (refine Ext.trans ?_ (by assumption)))))) hs).mono ?_)
      rintro e w7 ⟨A7, c7, rfl, ho7⟩
      have hx7 := ho7.ext
      have J7 := ho7.ints hI.len (by omega) hI.bds
      have hz_w7 := hx7.size
      (try simp at hz_w7)
      (try (have hq0_w7 : w.heap.size < w7.heap.size := by omega))
      (try (have hc0_w7 : ∀ o, w7.cell? ⟨w.heap.size, o, none⟩ = _ := fun o => hx7.cells.1 _ o (by first | (simp; done) | (simp; omega) | omega)))
      go_wp2_with fail
      (with_reducible refine (eqInt64S_same _ _ n _ _ xs _ (J4.ext (hx5.trans (hx6.trans hx7))) J7).mono ?_)
      rintro e w8 ⟨rfl, hq8⟩
      go_wp2
      go_ret
      exact ⟨rfl, Ext.below (Ext.qt (by with_reducible (repeat (first | exact Ext.refl _ | apply Ext.drewN | apply Ext.drew | apply Ext.alloc | (refine Ext.set ?_ (by first | (simp; done) | (simp; omega) | omega) _) | (refine Ext.trans ?_ (by assumption))))) hq8)⟩
    · have h0 : (tcd (vpat xs) (vtim b d && btw t 0 3000) (fits xs b d) != 0) = true := by simpa using hr
      obtain ⟨r, hr⟩ : ∃ r, tcd (vpat xs) (vtim b d && btw t 0 3000) (fits xs b d) = r := ⟨_, rfl⟩
      rw [hr] at h0
      go_enter Try.func3, Try.ntmps3
      go_wp2
      go_region_held3 (fun wz => wz.cell? ⟨w.heap.size, 0, none⟩ = some (.int .i64 b) ∧ wz.cell? ⟨w.heap.size, 1, none⟩ = some (.int .i64 d)) (go_keep)
        (first | (go_at_call 8; (with_reducible refine (toInt64S_ex A n c xs _ (hI.ext (by with_reducible (repeat (first | exact Ext.refl _ | apply Ext.drewN | apply Ext.drew | apply Ext.alloc | (refine Ext.set ?_ (by first | (simp; done) | (simp; omega) | omega) _) | (refine Ext.trans ?_ (by assumption)))))) hs).mono ?_); rintro e w1 ⟨A1, c1, rfl, ho1⟩; have hx1 := ho1.ext; have J1 := ho1.ints hI.len (by omega) hI.bds; have hz_w1 := hx1.size; (try simp at hz_w1); (try (have hq0_w1 : w.heap.size < w1.heap.size := by omega)); (try (have hc0_w1 : ∀ o, w1.cell? ⟨w.heap.size, o, none⟩ = _ := fun o => hx1.cells.1 _ o (by first | (simp; done) | (simp; omega) | omega)))) | (go_at_call 9; (with_reducible refine (toTiming_any b d _).mono ?_); rintro e w2 ⟨rfl, hx2⟩; have hz_w2 := hx2.size; (try simp at hz_w2); (try (have hq0_w2 : w.heap.size < w2.heap.size := by omega)); (try (have hc0_w2 : ∀ o, w2.cell? ⟨w.heap.size, o, none⟩ = _ := fun o => hx2.cells.1 _ o (by first | (simp; done) | (simp; omega) | omega)))) | (go_at_call 7; (with_reducible refine (specInAir_no _ n _ xs b d t _ (J1.ext hx2) r hr h0).mono ?_); rintro e w3 ⟨rfl, hx3⟩; have hz_w3 := hx3.size; (try simp at hz_w3); (try (have hq0_w3 : w.heap.size < w3.heap.size := by omega)); (try (have hc0_w3 : ∀ o, w3.cell? ⟨w.heap.size, o, none⟩ = _ := fun o => hx3.cells.1 _ o (by first | (simp; done) | (simp; omega) | omega)))))
      go_wp2_with fail
      (with_reducible refine (toInt64S_ex A n c xs _ (hI.ext (by with_reducible (repeat (first | exact Ext.refl _ | apply Ext.drewN | apply Ext.drew | apply Ext.alloc | (refine Ext.set ?_ (by first | (simp; done) | (simp; omega) | omega) _) | (refine Ext.trans ?_ (by assumption)))))) hs).mono ?_)
      rintro e w4 ⟨A4, c4, rfl, ho4⟩
      have hx4 := ho4.ext
      have J4 := ho4.ints hI.len (by omega) hI.bds
      have hz_w4 := hx4.size
      (try simp at hz_w4)
      (try (have hq0_w4 : w.heap.size < w4.heap.size := by omega))
      (try (have hc0_w4 : ∀ o, w4.cell? ⟨w.heap.size, o, none⟩ = _ := fun o => hx4.cells.1 _ o (by first | (simp; done) | (simp; omega) | omega)))
      go_wp2_with fail
      (with_reducible refine (toTiming_any b d _).mono ?_)
      rintro e w5 ⟨rfl, hx5⟩
      have hz_w5 := hx5.size
      (try simp at hz_w5)
      (try (have hq0_w5 : w.heap.size < w5.heap.size := by omega))
      (try (have hc0_w5 : ∀ o, w5.cell? ⟨w.heap.size, o, none⟩ = _ := fun o => hx5.cells.1 _ o (by first | (simp; done) | (simp; omega) | omega)))
      go_wp2_with fail
      (with_reducible refine (implInAir_no _ n _ xs b d t _ (J4.ext hx5) r hr h0).mono ?_)
      rintro e w6 ⟨rfl, hx6⟩
      have hz_w6 := hx6.size
      (try simp at hz_w6)
      (try (have hq0_w6 : w.heap.size < w6.heap.size := by omega))
      (try (have hc0_w6 : ∀ o, w6.cell? ⟨w.heap.size, o, none⟩ = _ := fun o => hx6.cells.1 _ o (by first | (simp; done) | (simp; omega) | omega)))
      go_wp2_with fail
      (with_reducible refine (toInt64S_ex A n c xs _ (hI.ext (by with_reducible (repeat (first | exact Ext.refl _ | apply Ext.drewN | apply Ext.drew | apply Ext.alloc | (refine Ext.set ?_ (by first | (simp; done) | (simp; omega) | omega) _) | (refine Ext.trans ?_ (by assumption)))))) hs).mono ?_)
      rintro e w7 ⟨A7, c7, rfl, ho7⟩
      have hx7 := ho7.ext
      have J7 := ho7.ints hI.len (by omega) hI.bds
      have hz_w7 := hx7.size
      (try simp at hz_w7)
      (try (have hq0_w7 : w.heap.size < w7.heap.size := by omega))
      (try (have hc0_w7 : ∀ o, w7.cell? ⟨w.heap.size, o, none⟩ = _ := fun o => hx7.cells.1 _ o (by first | (simp; done) | (simp; omega) | omega)))
      go_wp2_with fail
      (with_reducible refine (eqInt64S_same _ _ n _ _ xs _ (J4.ext (hx5.trans (hx6.trans hx7))) J7).mono ?_)
      rintro e w8 ⟨rfl, hq8⟩
      go_wp2
      go_ret
      exact ⟨rfl, Ext.below (Ext.qt (by with_reducible (repeat (first | exact Ext.refl _ | apply Ext.drewN | apply Ext.drew | apply Ext.alloc | (refine Ext.set ?_ (by first | (simp; done) | (simp; omega) | omega) _) | (refine Ext.trans ?_ (by assumption))))) hq8)⟩
  · go_enter Try.func3, Try.ntmps3
    go_wp2
    go_ret
    exact ⟨rfl, Ext.below (by with_reducible (repeat (first | exact Ext.refl _ | apply Ext.drewN | apply Ext.drew | apply Ext.alloc | (refine Ext.set ?_ (by first | (simp; done) | (simp; omega) | omega) _) | (refine Ext.trans ?_ (by assumption)))))⟩
end Go.Proofs.Ytklkbldmhhkcjaa.fnExactInAir
