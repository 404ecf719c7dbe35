/- The walk of laws.FnExactRoutineText. No condition. -/
import Derived.Test.YtinkaglngblddaaDoorRtx
import Derived.Deep.RegionHeld3
namespace Go.Proofs.YtinkaglngblddaaDoor.fnExactRoutineText
set_option linter.unusedVariables false
set_option linter.unusedSimpArgs false
open Go.RowKit
set_option maxHeartbeats 8000000 in
set_option maxRecDepth 100000 in
theorem walk (A : Option Addr) (n c : Nat) (ps : List (List Int × Int)) (h : Int) (w : World) (hA : Parts w A n ps) (hT : Tab w) :
    Calls Tryd.prog 3 #[.agg #[.int .i64 h, .slice A n c]] w fun e w' => e = .returned (.bool true) ∧ Below w.heap.size w w' := by
  have hsA := hA.small
  obtain ⟨v, hv⟩ := rtext_ex h ps n
  have HV := Lib.hid hv
  clear hv
  go_enter Tryd.func3, Tryd.ntmps3
  go_wp2_with fail
  (with_reducible refine (szRoutine_any A n c ps h 1048576 _ (hA.ext (by with_reducible (repeat (first | exact Ext.refl _ | apply Ext.drewN | apply Ext.drew | apply Ext.alloc | (refine Ext.set ?_ (by first | (simp; done) | (simp; omega) | omega) _) | (refine Ext.trans ?_ (by assumption)))))) (by omega)).mono ?_)
  rintro e ws0 ⟨y0, rfl, hy0, hx_ws0⟩
  have hz_ws0 := hx_ws0.size
  (try simp at hz_ws0)
  have hq0_ws0 : w.heap.size < ws0.heap.size := by omega
  have hc0_ws0 : ∀ o, ws0.cell? ⟨w.heap.size, o, none⟩ = _ := fun o => hx_ws0.cells.1 _ o (by first | (simp; done) | (simp; omega) | omega)
  have hf0_ws0 : ∀ o, ws0.frozen? ⟨w.heap.size, o, none⟩ = _ := fun o => hx_ws0.cells.2 _ o (by first | (simp; done) | (simp; omega) | omega)
  have hE_ws0 : Ext w ws0 := Ext.trans (by with_reducible (repeat (first | exact Ext.refl _ | apply Ext.drewN | apply Ext.drew | apply Ext.alloc | (refine Ext.set ?_ (by first | (simp; done) | (simp; omega) | omega) _) | (refine Ext.trans ?_ (by assumption))))) hx_ws0
  rcases hy0 with hy0 | ⟨hy0a, hy0b, hnA, hmA⟩
  · go_wp2
    go_ret
    exact ⟨rfl, Ext.below hE_ws0⟩
  have hyn0 : ¬ y0 < 0 := by omega
  have HMA := Lib.hid hmA
  clear hmA
  go_wp2_with fail
  ((with_reducible refine (toRoutine_any A n c ps h _ (hA.ext (by with_reducible (repeat (first | exact Ext.refl _ | apply Ext.drewN | apply Ext.drew | apply Ext.alloc | (refine Ext.set ?_ (by first | (simp; done) | (simp; omega) | omega) _) | (refine Ext.trans ?_ (by assumption)))))) hnA HMA.out).mono ?_); rintro e wt0 ⟨Awt0, cwt0, rfl, Pwt0, hx_wt0⟩; have hz_wt0 := hx_wt0.size; (try simp at hz_wt0); (have hq0_wt0 : w.heap.size < wt0.heap.size := by omega); (have hc0_wt0 : ∀ o, wt0.cell? ⟨w.heap.size, o, none⟩ = _ := fun o => hx_wt0.cells.1 _ o (by first | (simp; done) | (simp; omega) | omega)); (have hf0_wt0 : ∀ o, wt0.frozen? ⟨w.heap.size, o, none⟩ = _ := fun o => hx_wt0.cells.2 _ o (by first | (simp; done) | (simp; omega) | omega)))
  go_wp2_with fail
  ((with_reducible refine (specRoutineText_is Awt0 n cwt0 ps h _ (Pwt0.ext (by with_reducible (repeat (first | exact Ext.refl _ | apply Ext.drewN | apply Ext.drew | apply Ext.alloc | (refine Ext.set ?_ (by first | (simp; done) | (simp; omega) | omega) _) | (refine Ext.trans ?_ (by assumption)))))) v HV.out).mono ?_); rintro e wu ⟨rfl, hx_wu⟩; have hz_wu := hx_wu.size; (try simp at hz_wu); (have hq0_wu : w.heap.size < wu.heap.size := by omega); (have hc0_wu : ∀ o, wu.cell? ⟨w.heap.size, o, none⟩ = _ := fun o => hx_wu.cells.1 _ o (by first | (simp; done) | (simp; omega) | omega)); (have hf0_wu : ∀ o, wu.frozen? ⟨w.heap.size, o, none⟩ = _ := fun o => hx_wu.cells.2 _ o (by first | (simp; done) | (simp; omega) | omega)))
  have hE_wt0 : Ext w wt0 := Ext.trans (by with_reducible (repeat (first | exact Ext.refl _ | apply Ext.drewN | apply Ext.drew | apply Ext.alloc | (refine Ext.set ?_ (by first | (simp; done) | (simp; omega) | omega) _) | (refine Ext.trans ?_ (by assumption))))) hx_wt0
  have hE_wu : Ext w wu := Ext.trans (by with_reducible (repeat (first | exact Ext.refl _ | apply Ext.drewN | apply Ext.drew | apply Ext.alloc | (refine Ext.set ?_ (by first | (simp; done) | (simp; omega) | omega) _) | (refine Ext.trans ?_ (by assumption))))) hx_wu
  go_wp2_with fail
  (with_reducible refine (toRoutine_any A n c ps h _ (hA.ext (by with_reducible (repeat (first | exact Ext.refl _ | apply Ext.drewN | apply Ext.drew | apply Ext.alloc | (refine Ext.set ?_ (by first | (simp; done) | (simp; omega) | omega) _) | (refine Ext.trans ?_ (by assumption)))))) hnA HMA.out).mono ?_)
  rintro e wx0 ⟨Awx0, cwx0, rfl, Pwx0_wx0, hx_wx0⟩
  have hz_wx0 := hx_wx0.size
  (try simp at hz_wx0)
  have hq0_wx0 : w.heap.size < wx0.heap.size := by omega
  have hc0_wx0 : ∀ o, wx0.cell? ⟨w.heap.size, o, none⟩ = _ := fun o => hx_wx0.cells.1 _ o (by first | (simp; done) | (simp; omega) | omega)
  have hf0_wx0 : ∀ o, wx0.frozen? ⟨w.heap.size, o, none⟩ = _ := fun o => hx_wx0.cells.2 _ o (by first | (simp; done) | (simp; omega) | omega)
  have hE_wx0 : Ext w wx0 := Ext.trans (by with_reducible (repeat (first | exact Ext.refl _ | apply Ext.drewN | apply Ext.drew | apply Ext.alloc | (refine Ext.set ?_ (by first | (simp; done) | (simp; omega) | omega) _) | (refine Ext.trans ?_ (by assumption))))) hx_wx0
  go_wp2_with fail
  (with_reducible refine (implRoutineText_is Awx0 n _ ps h _ (Pwx0_wx0.ext (by with_reducible (repeat (first | exact Ext.refl _ | apply Ext.drewN | apply Ext.drew | apply Ext.alloc | (refine Ext.set ?_ (by first | (simp; done) | (simp; omega) | omega) _) | (refine Ext.trans ?_ (by assumption)))))) (hT.ext (by with_reducible (repeat (first | exact Ext.refl _ | apply Ext.drewN | apply Ext.drew | apply Ext.alloc | (refine Ext.set ?_ (by first | (simp; done) | (simp; omega) | omega) _) | (refine Ext.trans ?_ (by assumption)))))) v HV.out).mono ?_)
  rintro e wi ⟨rfl, hx_wi⟩
  have hz_wi := hx_wi.size
  (try simp at hz_wi)
  have hq0_wi : w.heap.size < wi.heap.size := by omega
  have hc0_wi : ∀ o, wi.cell? ⟨w.heap.size, o, none⟩ = _ := fun o => hx_wi.cells.1 _ o (by first | (simp; done) | (simp; omega) | omega)
  have hf0_wi : ∀ o, wi.frozen? ⟨w.heap.size, o, none⟩ = _ := fun o => hx_wi.cells.2 _ o (by first | (simp; done) | (simp; omega) | omega)
  have hq1_wi : wx0.heap.size < wi.heap.size := by omega
  have hc1_wi : ∀ o, wi.cell? ⟨wx0.heap.size, o, none⟩ = _ := fun o => hx_wi.cells.1 _ o (by first | (simp; done) | (simp; omega) | omega)
  have hf1_wi : ∀ o, wi.frozen? ⟨wx0.heap.size, o, none⟩ = _ := fun o => hx_wi.cells.2 _ o (by first | (simp; done) | (simp; omega) | omega)
  have Pwx0_wi := Pwx0_wx0.ext (Ext.trans (by with_reducible (repeat (first | exact Ext.refl _ | apply Ext.drewN | apply Ext.drew | apply Ext.alloc | (refine Ext.set ?_ (by first | (simp; done) | (simp; omega) | omega) _) | (refine Ext.trans ?_ (by assumption))))) hx_wi)
  have hE_wi : Ext w wi := Ext.trans (by with_reducible (repeat (first | exact Ext.refl _ | apply Ext.drewN | apply Ext.drew | apply Ext.alloc | (refine Ext.set ?_ (by first | (simp; done) | (simp; omega) | omega) _) | (refine Ext.trans ?_ (by assumption))))) hx_wi
  go_wp2
  go_region_held3 (fun wz => wz.cell? ⟨w.heap.size, 0, none⟩ = some (.int .i64 h) ∧ wz.cell? ⟨w.heap.size, 1, none⟩ = some (.slice A n c) ∧ wz.cell? ⟨wx0.heap.size, 0, none⟩ = some (.int .i64 h) ∧ wz.cell? ⟨wx0.heap.size, 1, none⟩ = some (.slice Awx0 n cwx0)) (go_keep)
    (first | (go_at_call 8; (with_reducible refine (toRoutine_any A n c ps h _ (hA.ext (by with_reducible (repeat (first | exact Ext.refl _ | apply Ext.drewN | apply Ext.drew | apply Ext.alloc | (refine Ext.set ?_ (by first | (simp; done) | (simp; omega) | omega) _) | (refine Ext.trans ?_ (by assumption)))))) hnA HMA.out).mono ?_); rintro e wr0 ⟨Awr0, cwr0, rfl, Pwr0, hx_wr0⟩; have hz_wr0 := hx_wr0.size; (try simp at hz_wr0); (have hq0_wr0 : w.heap.size < wr0.heap.size := by omega); (have hc0_wr0 : ∀ o, wr0.cell? ⟨w.heap.size, o, none⟩ = _ := fun o => hx_wr0.cells.1 _ o (by first | (simp; done) | (simp; omega) | omega)); (have hf0_wr0 : ∀ o, wr0.frozen? ⟨w.heap.size, o, none⟩ = _ := fun o => hx_wr0.cells.2 _ o (by first | (simp; done) | (simp; omega) | omega)); (have hq1_wr0 : wx0.heap.size < wr0.heap.size := by omega); (have hc1_wr0 : ∀ o, wr0.cell? ⟨wx0.heap.size, o, none⟩ = _ := fun o => hx_wr0.cells.1 _ o (by first | (simp; done) | (simp; omega) | omega)); (have hf1_wr0 : ∀ o, wr0.frozen? ⟨wx0.heap.size, o, none⟩ = _ := fun o => hx_wr0.cells.2 _ o (by first | (simp; done) | (simp; omega) | omega))) | (go_at_call 10; (with_reducible refine (eqRoutine_same _ _ n _ _ ps h _ (Pwx0_wi.ext (by with_reducible (repeat (first | exact Ext.refl _ | apply Ext.drewN | apply Ext.drew | apply Ext.alloc | (refine Ext.set ?_ (by first | (simp; done) | (simp; omega) | omega) _) | (refine Ext.trans ?_ (by assumption)))))) (Pwr0.ext (by with_reducible (repeat (first | exact Ext.refl _ | apply Ext.drewN | apply Ext.drew | apply Ext.alloc | (refine Ext.set ?_ (by first | (simp; done) | (simp; omega) | omega) _) | (refine Ext.trans ?_ (by assumption))))))).mono ?_); rintro e we0 ⟨rfl, hx_we0⟩; have hz_we0 := hx_we0.size; (try simp at hz_we0); (have hq0_we0 : w.heap.size < we0.heap.size := by omega); (have hc0_we0 : ∀ o, we0.cell? ⟨w.heap.size, o, none⟩ = _ := fun o => hx_we0.cells.1 _ o (by first | (simp; done) | (simp; omega) | omega)); (have hf0_we0 : ∀ o, we0.frozen? ⟨w.heap.size, o, none⟩ = _ := fun o => hx_we0.cells.2 _ o (by first | (simp; done) | (simp; omega) | omega)); (have hq1_we0 : wx0.heap.size < we0.heap.size := by omega); (have hc1_we0 : ∀ o, we0.cell? ⟨wx0.heap.size, o, none⟩ = _ := fun o => hx_we0.cells.1 _ o (by first | (simp; done) | (simp; omega) | omega)); (have hf1_we0 : ∀ o, we0.frozen? ⟨wx0.heap.size, o, none⟩ = _ := fun o => hx_we0.cells.2 _ o (by first | (simp; done) | (simp; omega) | omega))))
  have Pwx0_we0 := Pwx0_wi.ext (Ext.trans (by with_reducible (repeat (first | exact Ext.refl _ | apply Ext.drewN | apply Ext.drew | apply Ext.alloc | (refine Ext.set ?_ (by first | (simp; done) | (simp; omega) | omega) _) | (refine Ext.trans ?_ (by assumption))))) hx_we0)
  have hE_we0 : Ext w we0 := Ext.trans (by with_reducible (repeat (first | exact Ext.refl _ | apply Ext.drewN | apply Ext.drew | apply Ext.alloc | (refine Ext.set ?_ (by first | (simp; done) | (simp; omega) | omega) _) | (refine Ext.trans ?_ (by assumption))))) hx_we0
  go_wp2
  go_ret
  exact ⟨rfl, Ext.below (by with_reducible (repeat (first | exact Ext.refl _ | apply Ext.drewN | apply Ext.drew | apply Ext.alloc | (refine Ext.set ?_ (by first | (simp; done) | (simp; omega) | omega) _) | (refine Ext.trans ?_ (by assumption)))))⟩
end Go.Proofs.YtinkaglngblddaaDoor.fnExactRoutineText
