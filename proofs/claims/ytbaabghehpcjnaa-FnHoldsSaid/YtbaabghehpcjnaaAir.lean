/- Contracts of InAir. No condition. -/
import Derived.Test.YtbaabghehpcjnaaJua
import Derived.Deep.RegionHeld3
namespace Go.Proofs.Ytbaabghehpcjnaa
set_option linter.unusedVariables false
set_option linter.unusedSimpArgs false
open Go.RowKit
theorem implInAir_no (A : Option Addr) (n c : Nat) (xs : List Int) (b d t : Int) (w : World) (hI : Ints w A n xs) (r : Int) (hr : tcd (vpat xs) (vtim b d && btw t 0 3000) (fits xs b d) = r) (h0 : (r != 0) = true) :
    Calls Try.prog 10 #[.slice A n c, .agg #[.int .i64 b, .int .i64 d], .int .i64 t] w fun e w' => e = .returned (.tuple #[.int .i64 0, .int .i64 r]) ∧ Ext w w' := by
  go_enter Try.func10, Try.ntmps10
  go_wp2_with (first | (go_at_call 27; (with_reducible refine (timingCode_is _ _ _ xs b d _ _ _ (hI.ext (by with_reducible (repeat (first | exact Ext.refl _ | apply Ext.drewN | apply Ext.drew | apply Ext.alloc | (refine Ext.set ?_ (by first | (simp; done) | (simp; omega) | omega) _) | (refine Ext.trans ?_ (by assumption)))))) r hr).mono ?_); rintro e w1 ⟨rfl, hx⟩; have hz := hx.size; (try simp at hz); (try (have hq0 : w.heap.size < w1.heap.size := by omega)); (try (have hc0 : ∀ o, w1.cell? ⟨w.heap.size, o, none⟩ = _ := fun o => hx.cells.1 _ o (by first | (simp; done) | (simp; omega) | omega))); (try (have hf0 : ∀ o, w1.frozen? ⟨w.heap.size, o, none⟩ = _ := fun o => hx.cells.2 _ o (by first | (simp; done) | (simp; omega) | omega))); (try (have hq1 : w.heap.size + 1 < w1.heap.size := by omega)); (try (have hc1 : ∀ o, w1.cell? ⟨w.heap.size + 1, o, none⟩ = _ := fun o => hx.cells.1 _ o (by first | (simp; done) | (simp; omega) | omega))); (try (have hf1 : ∀ o, w1.frozen? ⟨w.heap.size + 1, o, none⟩ = _ := fun o => hx.cells.2 _ o (by first | (simp; done) | (simp; omega) | omega))); (try (have hq2 : w.heap.size + 2 < w1.heap.size := by omega)); (try (have hc2 : ∀ o, w1.cell? ⟨w.heap.size + 2, o, none⟩ = _ := fun o => hx.cells.1 _ o (by first | (simp; done) | (simp; omega) | omega))); (try (have hf2 : ∀ o, w1.frozen? ⟨w.heap.size + 2, o, none⟩ = _ := fun o => hx.cells.2 _ o (by first | (simp; done) | (simp; omega) | omega)))))
  go_ret2
  exact ⟨rfl, (by with_reducible (repeat (first | exact Ext.refl _ | apply Ext.drewN | apply Ext.drew | apply Ext.alloc | (refine Ext.set ?_ (by first | (simp; done) | (simp; omega) | omega) _) | (refine Ext.trans ?_ (by assumption)))))⟩
theorem implInAir_yes (A : Option Addr) (n c : Nat) (xs : List Int) (b d t : Int) (w : World) (hI : Ints w A n xs) (hr : tcd (vpat xs) (vtim b d && btw t 0 3000) (fits xs b d) = 0) :
    Calls Try.prog 10 #[.slice A n c, .agg #[.int .i64 b, .int .i64 d], .int .i64 t] w fun e w' => e = .returned (.tuple #[.int .i64 (prp xs - hin xs b d t), .int .i64 0]) ∧ Ext w w' := by
  obtain ⟨hv, htt, hf⟩ := tcd_zero hr
  rw [Bool.and_eq_true] at htt
  obtain ⟨hb0, hk⟩ := htt
  have ht := btw_iff.1 hk
  obtain ⟨hb, hd⟩ := vtim_iff.1 hb0
  have hp1 := prp_bd hv
  have hp2 := hCnt_bd xs b d t (t / b) 4
  have hp3 : 0 ≤ hin xs b d t ∧ hin xs b d t ≤ 4 := by unfold hin; omega
  have e1 : IntKind.i64.wrap (prp xs - hin xs b d t) = prp xs - hin xs b d t := IntWalk.i64_in _ (by omega)
  have HV := Lib.hid hv
  have HB := Lib.hid hb0
  have HC := Lib.hid hr
  clear hv hb0 hf hk hr hp2
  go_enter Try.func10, Try.ntmps10
  go_wp2_with (first | (go_at_call 27; (with_reducible refine (timingCode_is _ _ _ xs b d _ _ _ (hI.ext (by with_reducible (repeat (first | exact Ext.refl _ | apply Ext.drewN | apply Ext.drew | apply Ext.alloc | (refine Ext.set ?_ (by first | (simp; done) | (simp; omega) | omega) _) | (refine Ext.trans ?_ (by assumption)))))) 0 HC.out).mono ?_); rintro e w1 ⟨rfl, hx⟩; have hz := hx.size; (try simp at hz); (try (have hq0 : w.heap.size < w1.heap.size := by omega)); (try (have hc0 : ∀ o, w1.cell? ⟨w.heap.size, o, none⟩ = _ := fun o => hx.cells.1 _ o (by first | (simp; done) | (simp; omega) | omega))); (try (have hf0 : ∀ o, w1.frozen? ⟨w.heap.size, o, none⟩ = _ := fun o => hx.cells.2 _ o (by first | (simp; done) | (simp; omega) | omega))); (try (have hq1 : w.heap.size + 1 < w1.heap.size := by omega)); (try (have hc1 : ∀ o, w1.cell? ⟨w.heap.size + 1, o, none⟩ = _ := fun o => hx.cells.1 _ o (by first | (simp; done) | (simp; omega) | omega))); (try (have hf1 : ∀ o, w1.frozen? ⟨w.heap.size + 1, o, none⟩ = _ := fun o => hx.cells.2 _ o (by first | (simp; done) | (simp; omega) | omega))); (try (have hq2 : w.heap.size + 2 < w1.heap.size := by omega)); (try (have hc2 : ∀ o, w1.cell? ⟨w.heap.size + 2, o, none⟩ = _ := fun o => hx.cells.1 _ o (by first | (simp; done) | (simp; omega) | omega))); (try (have hf2 : ∀ o, w1.frozen? ⟨w.heap.size + 2, o, none⟩ = _ := fun o => hx.cells.2 _ o (by first | (simp; done) | (simp; omega) | omega)))))
  go_region_held3 (fun wz => wz.cell? ⟨w.heap.size, 0, none⟩ = some (.int .i64 b) ∧ wz.cell? ⟨w.heap.size, 1, none⟩ = some (.int .i64 d)) (go_keep)
    (first | (go_at_call 29; (with_reducible refine (propsOf_is _ _ _ xs _ (hI.ext (by with_reducible (repeat (first | exact Ext.refl _ | apply Ext.drewN | apply Ext.drew | apply Ext.alloc | (refine Ext.set ?_ (by first | (simp; done) | (simp; omega) | omega) _) | (refine Ext.trans ?_ (by assumption)))))) HV.out).mono ?_); rintro e w' ⟨rfl, rfl⟩) | (go_at_call 28; (with_reducible refine (inHands_any _ _ _ xs b d t _ (hI.ext (by with_reducible (repeat (first | exact Ext.refl _ | apply Ext.drewN | apply Ext.drew | apply Ext.alloc | (refine Ext.set ?_ (by first | (simp; done) | (simp; omega) | omega) _) | (refine Ext.trans ?_ (by assumption)))))) HV.out HB.out ht).mono ?_); rintro e w2 ⟨rfl, hx2⟩; have hk2 : ∀ o, w2.cell? ⟨w.heap.size, o, none⟩ = _ := fun o => hx2.cells.1 _ o (by first | (simp; done) | (simp; omega) | omega)))
  go_wp2
  go_ret2
  exact ⟨rfl, (by with_reducible (repeat (first | exact Ext.refl _ | apply Ext.drewN | apply Ext.drew | apply Ext.alloc | (refine Ext.set ?_ (by first | (simp; done) | (simp; omega) | omega) _) | (refine Ext.trans ?_ (by assumption)))))⟩
end Go.Proofs.Ytbaabghehpcjnaa
