/- The walk of laws.FnExactReadRoutine. No condition. -/
import Derived.Test.YtinkaglngblddaaDoorRds
import Derived.Test.YtinkaglngblddaaDoorRtm2
namespace Go.Proofs.YtinkaglngblddaaDoor.fnExactReadRoutine
set_option linter.unusedVariables false
set_option linter.unusedSimpArgs false
open Go.RowKit
theorem rdo_bd {s : ByteArray} {h : Int} {ps : List (List Int × Int)} {r : Bool} (hR : Rdo s h ps r) : ps.length ≤ 8 ∧ bdP ps := by
  rcases hR with ⟨_, w0, ws, _, _, hw, hv⟩ | ⟨_, _, rfl, _⟩
  · obtain ⟨_, h2, h3⟩ := vrt_parts hv rfl
    refine ⟨h2.2, fun i hi => ?_⟩
    obtain ⟨h4, h5⟩ := h3 i hi
    have h12 := (thr_iff.1 (vpat_thr h4)).2
    refine ⟨by omega, fun y hy => ?_, by omega, by omega⟩
    obtain ⟨j, hj, rfl⟩ := List.mem_iff_getElem.1 hy
    have := vpat_get h4 hj
    rw [List.getElem?_eq_getElem hj] at this
    simp only [Option.getD_some] at this
    omega
  · exact ⟨by simp, fun i hi => absurd hi (by simp)⟩
theorem rdo_ex (s : ByteArray) : ∃ h ps r, Rdo s h ps r := by
  by_cases h : ∃ h ps, rdo s h ps
  · obtain ⟨h, ps, hr⟩ := h
    exact ⟨h, ps, true, .inl ⟨rfl, hr⟩⟩
  · exact ⟨0, [], false, .inr ⟨rfl, rfl, rfl, fun a b hr => h ⟨a, b, hr⟩⟩⟩
set_option maxHeartbeats 8000000 in
set_option maxRecDepth 100000 in
theorem walk (s : ByteArray) (w : World) (hT : Tab w) :
    Calls Tryd.prog 4 #[.string s] w fun e w' => e = .returned (.bool true) ∧ Below w.heap.size w w' := by
  by_cases hbig : 1048576 < s.size
  · have hb : (1048576 : Int) < s.size := by omega
    go_enter Tryd.func4, Tryd.ntmps4
    go_wp2
    go_ret
    exact ⟨rfl, Ext.below (Ext.refl _)⟩
  have hs : s.size ≤ 1048576 := by omega
  have hb : ¬ (1048576 : Int) < s.size := by omega
  obtain ⟨hh, ys, r, hy⟩ := rdo_ex s
  have HR := Lib.hid hy
  have HYB : Hid (ys.length ≤ 8 ∧ bdP ys) := rdo_bd hy
  clear hy
  have hyl8 := HYB.out.1
  have hyl : ys.length ≤ 1048576 := by omega
  have HYL : Hid (∀ i, i < ys.length → (pt ys i).length ≤ 1048576) := fun i hi => (HYB.out.2 i hi).1
  go_enter Tryd.func4, Tryd.ntmps4
  go_wp2_with fail
  (with_reducible refine (specReadRoutine_any s _ hs hh ys r HR.out).mono ?_)
  rintro e w1 ⟨Aw, cw, rfl, Rw, hx_w1⟩
  have hz_w1 := hx_w1.size
  (try simp at hz_w1)
  have hp_w1 : Ext w w1 := Ext.trans (by with_reducible (repeat (first | exact Ext.refl _ | apply Ext.drewN | apply Ext.drew | apply Ext.alloc | (refine Ext.set ?_ (by first | (simp; done) | (simp; omega) | omega) _) | (refine Ext.trans ?_ (by assumption))))) hx_w1
  have hE_w1 : Ext w w1 := hp_w1
  have Rw_w1 : PRow w1 (w.heap.size) w1.heap.size Aw ys.length cw ys := by first | (simpa using Rw) | exact Rw
  clear Rw
  have hlw : w.heap.size ≤ w1.heap.size := by omega
  go_wp2_with fail
  (with_reducible refine (implReadRoutine_any s _ hs (hT.ext (hE_w1.trans (by with_reducible (repeat (first | exact Ext.refl _ | apply Ext.drewN | apply Ext.drew | apply Ext.alloc | (refine Ext.set ?_ (by first | (simp; done) | (simp; omega) | omega) _) | (refine Ext.trans ?_ (by assumption))))))) hh ys r HR.out).mono ?_)
  rintro e w2 ⟨Ag, cg, rfl, Rg, hx_w2⟩
  have hz_w2 := hx_w2.size
  (try simp at hz_w2)
  have hp_w2 : Ext w1 w2 := Ext.trans (by with_reducible (repeat (first | exact Ext.refl _ | apply Ext.drewN | apply Ext.drew | apply Ext.alloc | (refine Ext.set ?_ (by first | (simp; done) | (simp; omega) | omega) _) | (refine Ext.trans ?_ (by assumption))))) hx_w2
  have hq0_w2 : w1.heap.size < w2.heap.size := by omega
  have hb00_w2 : w2.cell? ⟨w1.heap.size, 0, none⟩ = some (.int .i64 hh) := hx_w2.cell (by first | (simp [World.setCell]; done) | (simp [World.setCell]; omega) | omega) (by go_simp)
  have hb01_w2 : w2.cell? ⟨w1.heap.size, 1, none⟩ = some (.slice Aw ys.length cw) := hx_w2.cell (by first | (simp [World.setCell]; done) | (simp [World.setCell]; omega) | omega) (by go_simp)
  have Rw_w2 := Rw_w1.ext hp_w2
  have hE_w2 : Ext w w2 := hE_w1.trans hp_w2
  have Rg_w2 : PRow w2 (w1.heap.size + 1) w2.heap.size Ag ys.length cg ys := by first | (simpa using Rg) | exact Rg
  clear Rg
  have hlg : w1.heap.size + 1 ≤ w2.heap.size := by omega
  go_wp2_with fail
  (with_reducible refine (eqRoutine_same _ _ _ _ _ ys hh _ ((Rg_w2.parts (by omega) HYB.out.2).ext (by with_reducible (repeat (first | exact Ext.refl _ | apply Ext.drewN | apply Ext.drew | apply Ext.alloc | (refine Ext.set ?_ (by first | (simp; done) | (simp; omega) | omega) _) | (refine Ext.trans ?_ (by assumption)))))) ((Rw_w2.parts (by omega) HYB.out.2).ext (by with_reducible (repeat (first | exact Ext.refl _ | apply Ext.drewN | apply Ext.drew | apply Ext.alloc | (refine Ext.set ?_ (by first | (simp; done) | (simp; omega) | omega) _) | (refine Ext.trans ?_ (by assumption))))))).mono ?_)
  rintro e w3 ⟨rfl, hx_w3⟩
  have hz_w3 := hx_w3.size
  (try simp at hz_w3)
  have hp_w3 : Ext w2 w3 := Ext.trans (by with_reducible (repeat (first | exact Ext.refl _ | apply Ext.drewN | apply Ext.drew | apply Ext.alloc | (refine Ext.set ?_ (by first | (simp; done) | (simp; omega) | omega) _) | (refine Ext.trans ?_ (by assumption))))) hx_w3
  have hq0_w3 : w1.heap.size < w3.heap.size := by omega
  have hb00_w3 : w3.cell? ⟨w1.heap.size, 0, none⟩ = some (.int .i64 hh) := hp_w3.cell (by omega) hb00_w2
  have hb01_w3 : w3.cell? ⟨w1.heap.size, 1, none⟩ = some (.slice Aw ys.length cw) := hp_w3.cell (by omega) hb01_w2
  have hq1_w3 : w2.heap.size < w3.heap.size := by omega
  have hb10_w3 : w3.cell? ⟨w2.heap.size, 0, none⟩ = some (.int .i64 hh) := hx_w3.cell (by first | (simp [World.setCell]; done) | (simp [World.setCell]; omega) | omega) (by go_simp)
  have hb11_w3 : w3.cell? ⟨w2.heap.size, 1, none⟩ = some (.slice Ag ys.length cg) := hx_w3.cell (by first | (simp [World.setCell]; done) | (simp [World.setCell]; omega) | omega) (by go_simp)
  have Rw_w3 := Rw_w2.ext hp_w3
  have Rg_w3 := Rg_w2.ext hp_w3
  have hE_w3 : Ext w w3 := hE_w2.trans hp_w3
  have hsmM := sm_lt (f := (fun i => (pt ys i).length)) HYL.out (n := ys.length) (by omega) (Nat.le_refl _)
  obtain ⟨M, hM⟩ : ∃ M : Int, 1 + sm (fun i => (pt ys i).length) ys.length = M := ⟨_, rfl⟩
  go_wp2_with fail
  (with_reducible refine (markRoutine_own _ _ _ ys.length _ _ 1 ys _ Rg_w3 (by omega) (by omega) (fun i => (pt ys i).length) (fun i hi => ⟨rfl, HYL.out i hi⟩) (by omega)).mono ?_)
  rintro e w4 ⟨he_w4, hk_w4, Rg_w4⟩
  rw [hM] at he_w4
  subst he_w4
  have hz_w4 := hk_w4.size
  have hq0_w4 : w1.heap.size < w4.heap.size := by omega
  have hb00_w4 : w4.cell? ⟨w1.heap.size, 0, none⟩ = some (.int .i64 hh) := hk_w4.cell (by omega) (by omega) hb00_w3
  have hb01_w4 : w4.cell? ⟨w1.heap.size, 1, none⟩ = some (.slice Aw ys.length cw) := hk_w4.cell (by omega) (by omega) hb01_w3
  have hq1_w4 : w2.heap.size < w4.heap.size := by omega
  have hb10_w4 : w4.cell? ⟨w2.heap.size, 0, none⟩ = some (.int .i64 hh) := hk_w4.cell (by omega) (by omega) hb10_w3
  have hb11_w4 : w4.cell? ⟨w2.heap.size, 1, none⟩ = some (.slice Ag ys.length cg) := hk_w4.cell (by omega) (by omega) hb11_w3
  have Rw_w4 := Rw_w3.held hk_w4 (by omega)
  have hE_w4 : Ext w w4 := hk_w4.ext hE_w3 (by omega)
  clear hk_w4
  have hnegM : ¬ M < 0 := by omega
  have hbdM : 0 ≤ M ∧ M ≤ 1200000000000 := by omega
  have HM := Lib.hid hM
  clear hM hsmM
  go_wp2_with fail
  (with_reducible refine (heldRoutine_any _ ys.length _ (fun i => (pt ys i).length) _ 1 _ ((Rg_w4.parts (by omega) (mkP_bd (by omega) (by omega) HYL.out)).ext (by with_reducible (repeat (first | exact Ext.refl _ | apply Ext.drewN | apply Ext.drew | apply Ext.alloc | (refine Ext.set ?_ (by first | (simp; done) | (simp; omega) | omega) _) | (refine Ext.trans ?_ (by assumption)))))) (by omega) (by omega) HYL.out).mono ?_)
  rintro e w5 ⟨he_w5, hx_w5⟩
  rw [HM.out] at he_w5
  subst he_w5
  have hz_w5 := hx_w5.size
  (try simp at hz_w5)
  have hp_w5 : Ext w4 w5 := Ext.trans (by with_reducible (repeat (first | exact Ext.refl _ | apply Ext.drewN | apply Ext.drew | apply Ext.alloc | (refine Ext.set ?_ (by first | (simp; done) | (simp; omega) | omega) _) | (refine Ext.trans ?_ (by assumption))))) hx_w5
  have hq0_w5 : w1.heap.size < w5.heap.size := by omega
  have hb00_w5 : w5.cell? ⟨w1.heap.size, 0, none⟩ = some (.int .i64 hh) := hp_w5.cell (by omega) hb00_w4
  have hb01_w5 : w5.cell? ⟨w1.heap.size, 1, none⟩ = some (.slice Aw ys.length cw) := hp_w5.cell (by omega) hb01_w4
  have hq1_w5 : w2.heap.size < w5.heap.size := by omega
  have hb10_w5 : w5.cell? ⟨w2.heap.size, 0, none⟩ = some (.int .i64 hh) := hp_w5.cell (by omega) hb10_w4
  have hb11_w5 : w5.cell? ⟨w2.heap.size, 1, none⟩ = some (.slice Ag ys.length cg) := hp_w5.cell (by omega) hb11_w4
  have Rw_w5 := Rw_w4.ext hp_w5
  have Rg_w5 := Rg_w4.ext hp_w5
  have hE_w5 : Ext w w5 := hE_w4.trans hp_w5
  go_wp2_with fail
  (with_reducible refine (implReadRoutine_any s _ hs (hT.ext (hE_w5.trans (by with_reducible (repeat (first | exact Ext.refl _ | apply Ext.drewN | apply Ext.drew | apply Ext.alloc | (refine Ext.set ?_ (by first | (simp; done) | (simp; omega) | omega) _) | (refine Ext.trans ?_ (by assumption))))))) hh ys r HR.out).mono ?_)
  rintro e w6 ⟨Ah, ch, rfl, Rh, hx_w6⟩
  have hz_w6 := hx_w6.size
  (try simp at hz_w6)
  have hp_w6 : Ext w5 w6 := Ext.trans (by with_reducible (repeat (first | exact Ext.refl _ | apply Ext.drewN | apply Ext.drew | apply Ext.alloc | (refine Ext.set ?_ (by first | (simp; done) | (simp; omega) | omega) _) | (refine Ext.trans ?_ (by assumption))))) hx_w6
  have hq0_w6 : w1.heap.size < w6.heap.size := by omega
  have hb00_w6 : w6.cell? ⟨w1.heap.size, 0, none⟩ = some (.int .i64 hh) := hp_w6.cell (by omega) hb00_w5
  have hb01_w6 : w6.cell? ⟨w1.heap.size, 1, none⟩ = some (.slice Aw ys.length cw) := hp_w6.cell (by omega) hb01_w5
  have hq1_w6 : w2.heap.size < w6.heap.size := by omega
  have hb10_w6 : w6.cell? ⟨w2.heap.size, 0, none⟩ = some (.int .i64 hh) := hp_w6.cell (by omega) hb10_w5
  have hb11_w6 : w6.cell? ⟨w2.heap.size, 1, none⟩ = some (.slice Ag ys.length cg) := hp_w6.cell (by omega) hb11_w5
  have Rw_w6 := Rw_w5.ext hp_w6
  have Rg_w6 := Rg_w5.ext hp_w6
  have hE_w6 : Ext w w6 := hE_w5.trans hp_w6
  have Rh_w6 : PRow w6 (w5.heap.size) w6.heap.size Ah ys.length ch ys := by first | (simpa using Rh) | exact Rh
  clear Rh
  have hlh : w5.heap.size ≤ w6.heap.size := by omega
  go_wp2_with fail
  (with_reducible refine (eqRoutine_same _ _ _ _ _ ys hh _ ((Rh_w6.parts (by omega) HYB.out.2).ext (by with_reducible (repeat (first | exact Ext.refl _ | apply Ext.drewN | apply Ext.drew | apply Ext.alloc | (refine Ext.set ?_ (by first | (simp; done) | (simp; omega) | omega) _) | (refine Ext.trans ?_ (by assumption)))))) ((Rw_w6.parts (by omega) HYB.out.2).ext (by with_reducible (repeat (first | exact Ext.refl _ | apply Ext.drewN | apply Ext.drew | apply Ext.alloc | (refine Ext.set ?_ (by first | (simp; done) | (simp; omega) | omega) _) | (refine Ext.trans ?_ (by assumption))))))).mono ?_)
  rintro e w7 ⟨rfl, hx_w7⟩
  have hz_w7 := hx_w7.size
  (try simp at hz_w7)
  have hp_w7 : Ext w6 w7 := Ext.trans (by with_reducible (repeat (first | exact Ext.refl _ | apply Ext.drewN | apply Ext.drew | apply Ext.alloc | (refine Ext.set ?_ (by first | (simp; done) | (simp; omega) | omega) _) | (refine Ext.trans ?_ (by assumption))))) hx_w7
  have hq0_w7 : w1.heap.size < w7.heap.size := by omega
  have hb00_w7 : w7.cell? ⟨w1.heap.size, 0, none⟩ = some (.int .i64 hh) := hp_w7.cell (by omega) hb00_w6
  have hb01_w7 : w7.cell? ⟨w1.heap.size, 1, none⟩ = some (.slice Aw ys.length cw) := hp_w7.cell (by omega) hb01_w6
  have hq1_w7 : w2.heap.size < w7.heap.size := by omega
  have hb10_w7 : w7.cell? ⟨w2.heap.size, 0, none⟩ = some (.int .i64 hh) := hp_w7.cell (by omega) hb10_w6
  have hb11_w7 : w7.cell? ⟨w2.heap.size, 1, none⟩ = some (.slice Ag ys.length cg) := hp_w7.cell (by omega) hb11_w6
  have hq2_w7 : w6.heap.size < w7.heap.size := by omega
  have hb20_w7 : w7.cell? ⟨w6.heap.size, 0, none⟩ = some (.int .i64 hh) := hx_w7.cell (by first | (simp [World.setCell]; done) | (simp [World.setCell]; omega) | omega) (by go_simp)
  have hb21_w7 : w7.cell? ⟨w6.heap.size, 1, none⟩ = some (.slice Ah ys.length ch) := hx_w7.cell (by first | (simp [World.setCell]; done) | (simp [World.setCell]; omega) | omega) (by go_simp)
  have Rw_w7 := Rw_w6.ext hp_w7
  have Rg_w7 := Rg_w6.ext hp_w7
  have Rh_w7 := Rh_w6.ext hp_w7
  have hE_w7 : Ext w w7 := hE_w6.trans hp_w7
  go_wp2_with fail
  (with_reducible refine (heldRoutine_any _ ys.length _ (fun i => (pt ys i).length) _ 1 _ ((Rg_w7.parts (by omega) (mkP_bd (by omega) (by omega) HYL.out)).ext (by with_reducible (repeat (first | exact Ext.refl _ | apply Ext.drewN | apply Ext.drew | apply Ext.alloc | (refine Ext.set ?_ (by first | (simp; done) | (simp; omega) | omega) _) | (refine Ext.trans ?_ (by assumption)))))) (by omega) (by omega) HYL.out).mono ?_)
  rintro e w8 ⟨he_w8, hx_w8⟩
  rw [HM.out] at he_w8
  subst he_w8
  have hz_w8 := hx_w8.size
  (try simp at hz_w8)
  have hp_w8 : Ext w7 w8 := Ext.trans (by with_reducible (repeat (first | exact Ext.refl _ | apply Ext.drewN | apply Ext.drew | apply Ext.alloc | (refine Ext.set ?_ (by first | (simp; done) | (simp; omega) | omega) _) | (refine Ext.trans ?_ (by assumption))))) hx_w8
  have hq0_w8 : w1.heap.size < w8.heap.size := by omega
  have hb00_w8 : w8.cell? ⟨w1.heap.size, 0, none⟩ = some (.int .i64 hh) := hp_w8.cell (by omega) hb00_w7
  have hb01_w8 : w8.cell? ⟨w1.heap.size, 1, none⟩ = some (.slice Aw ys.length cw) := hp_w8.cell (by omega) hb01_w7
  have hq1_w8 : w2.heap.size < w8.heap.size := by omega
  have hb10_w8 : w8.cell? ⟨w2.heap.size, 0, none⟩ = some (.int .i64 hh) := hp_w8.cell (by omega) hb10_w7
  have hb11_w8 : w8.cell? ⟨w2.heap.size, 1, none⟩ = some (.slice Ag ys.length cg) := hp_w8.cell (by omega) hb11_w7
  have hq2_w8 : w6.heap.size < w8.heap.size := by omega
  have hb20_w8 : w8.cell? ⟨w6.heap.size, 0, none⟩ = some (.int .i64 hh) := hp_w8.cell (by omega) hb20_w7
  have hb21_w8 : w8.cell? ⟨w6.heap.size, 1, none⟩ = some (.slice Ah ys.length ch) := hp_w8.cell (by omega) hb21_w7
  have Rw_w8 := Rw_w7.ext hp_w8
  have Rg_w8 := Rg_w7.ext hp_w8
  have Rh_w8 := Rh_w7.ext hp_w8
  have hE_w8 : Ext w w8 := hE_w7.trans hp_w8
  go_wp2
  go_ret
  exact ⟨rfl, Ext.below hE_w8⟩
end Go.Proofs.YtinkaglngblddaaDoor.fnExactReadRoutine
