/- The walk of laws.FnExactAppendPart. No condition. -/
import Derived.Test.YtignmgeiijccoaaApn
import Derived.Deep.RegionHeld3
import Derived.Deep.DeepCutAuto
namespace Go.Proofs.Ytignmgeiijccoaa.fnExactAppendPart
set_option linter.unusedVariables false
set_option linter.unusedSimpArgs false
open Go.RowKit
set_option maxHeartbeats 8000000 in
set_option maxRecDepth 100000 in
theorem walk (A : Option Addr) (n c : Nat) (ps : List (List Int × Int)) (h : Int) (B : Option Addr) (m d : Nat) (xs : List Int) (t : Int) (ht : -9223372036854775808 ≤ t ∧ t ≤ 9223372036854775807) (w : World) (hI : Parts w A n ps) (hJ : Ints w B m xs) :
    Calls Try.prog 6 #[.agg #[.int .i64 h, .slice A n c], .agg #[.slice B m d, .int .i64 t]] w fun e w' => e = .returned (.bool true) ∧ Below w.heap.size w w' := by
  have hs1 := hI.small
  have hlen := hI.len
  have hs2 := hJ.small
  have hlenJ := hJ.len
  obtain ⟨hh, ys, r, hy⟩ : ∃ hh ys r, apn h ps xs t = (hh, ys, r) := ⟨_, _, _, rfl⟩
  have HY := Lib.hid hy
  clear hy
  go_enter Try.func6, Try.ntmps6
  go_wp2_with fail
  (with_reducible refine (szRoutine_any A n c ps h 1048576 _ (hI.ext (by with_reducible (repeat (first | exact Ext.refl _ | apply Ext.drewN | apply Ext.drew | apply Ext.alloc | (refine Ext.set ?_ (by first | (simp; done) | (simp; omega) | omega) _) | (refine Ext.trans ?_ (by assumption)))))) (by omega)).mono ?_)
  rintro e w1 ⟨q0, rfl, hq0, hx_w1⟩
  have hz_w1 := hx_w1.size
  (try simp at hz_w1)
  have hp_w1 : Ext w w1 := Ext.trans (by with_reducible (repeat (first | exact Ext.refl _ | apply Ext.drewN | apply Ext.drew | apply Ext.alloc | (refine Ext.set ?_ (by first | (simp; done) | (simp; omega) | omega) _) | (refine Ext.trans ?_ (by assumption))))) hx_w1
  have hq0_w1 : w.heap.size < w1.heap.size := by omega
  have hb00_w1 : w1.cell? ⟨w.heap.size, 0, none⟩ = some (.int .i64 h) := hx_w1.cell (by first | (simp [World.setCell]; done) | (simp [World.setCell]; omega) | omega) (by go_simp)
  have hb01_w1 : w1.cell? ⟨w.heap.size, 1, none⟩ = some (.slice A n c) := hx_w1.cell (by first | (simp [World.setCell]; done) | (simp [World.setCell]; omega) | omega) (by go_simp)
  have hq1_w1 : w.heap.size + 1 < w1.heap.size := by omega
  have hb10_w1 : w1.cell? ⟨w.heap.size + 1, 0, none⟩ = some (.slice B m d) := hx_w1.cell (by first | (simp [World.setCell]; done) | (simp [World.setCell]; omega) | omega) (by go_simp)
  have hb11_w1 : w1.cell? ⟨w.heap.size + 1, 1, none⟩ = some (.int .i64 t) := hx_w1.cell (by first | (simp [World.setCell]; done) | (simp [World.setCell]; omega) | omega) (by go_simp)
  have hE_w1 : Ext w w1 := Ext.trans (by with_reducible (repeat (first | exact Ext.refl _ | apply Ext.drewN | apply Ext.drew | apply Ext.alloc | (refine Ext.set ?_ (by first | (simp; done) | (simp; omega) | omega) _) | (refine Ext.trans ?_ (by assumption))))) hx_w1
  rcases hq0 with hq0 | ⟨hq0a, hq0b, hn, hM⟩
  · go_wp2
    go_ret
    exact ⟨rfl, Ext.below hE_w1⟩
  have hqn0 : ¬ q0 < 0 := by omega
  have HBP : Hid (bdP ps) := hI.bd hM
  have HLM := Lib.hid hM
  clear hM
  go_wp2_with fail
  (with_reducible refine (szPart_any B m d xs t q0 _ (hJ.ext (by with_reducible (repeat (first | exact Ext.refl _ | apply Ext.drewN | apply Ext.drew | apply Ext.alloc | (refine Ext.set ?_ (by first | (simp; done) | (simp; omega) | omega) _) | (refine Ext.trans ?_ (by assumption)))))) (by omega)).mono ?_)
  rintro e w2 ⟨q1, rfl, hq1, hx_w2⟩
  have hz_w2 := hx_w2.size
  (try simp at hz_w2)
  have hp_w2 : Ext w1 w2 := Ext.trans (by with_reducible (repeat (first | exact Ext.refl _ | apply Ext.drewN | apply Ext.drew | apply Ext.alloc | (refine Ext.set ?_ (by first | (simp; done) | (simp; omega) | omega) _) | (refine Ext.trans ?_ (by assumption))))) hx_w2
  have hq0_w2 : w.heap.size < w2.heap.size := by omega
  have hb00_w2 : w2.cell? ⟨w.heap.size, 0, none⟩ = some (.int .i64 h) := hp_w2.cell (by omega) hb00_w1
  have hb01_w2 : w2.cell? ⟨w.heap.size, 1, none⟩ = some (.slice A n c) := hp_w2.cell (by omega) hb01_w1
  have hq1_w2 : w.heap.size + 1 < w2.heap.size := by omega
  have hb10_w2 : w2.cell? ⟨w.heap.size + 1, 0, none⟩ = some (.slice B m d) := hp_w2.cell (by omega) hb10_w1
  have hb11_w2 : w2.cell? ⟨w.heap.size + 1, 1, none⟩ = some (.int .i64 t) := hp_w2.cell (by omega) hb11_w1
  have hE_w2 : Ext w w2 := Ext.trans (by with_reducible (repeat (first | exact Ext.refl _ | apply Ext.drewN | apply Ext.drew | apply Ext.alloc | (refine Ext.set ?_ (by first | (simp; done) | (simp; omega) | omega) _) | (refine Ext.trans ?_ (by assumption))))) hx_w2
  rcases hq1 with hq1 | ⟨hq1a, hq1b, hm⟩
  · go_wp2
    go_ret
    exact ⟨rfl, Ext.below hE_w2⟩
  have hqn1 : ¬ q1 < 0 := by omega
  have HBX : Hid (∀ y ∈ xs, -9223372036854775808 ≤ y ∧ y ≤ 9223372036854775807) := hJ.bds
  have HYB : Hid (ys.length ≤ 1048576 ∧ bdP ys) := apn_bd HY.out HBP.out (by rw [hlen]; exact hn) (by rw [hlenJ]; exact hm) HBX.out ht
  have hyl := HYB.out.1
  have HYL := Lib.hid HYB.out.2.len
  have hu00 : w.heap.size ≠ w2.heap.size := by omega
  have hv00 : w2.heap.size ≠ w.heap.size := by omega
  have hu01 : w.heap.size + 1 ≠ w2.heap.size := by omega
  have hv01 : w2.heap.size ≠ w.heap.size + 1 := by omega
  go_upto_region 8 with fail
  go_cut [6, 7] (fun s6 s7 wx => RouBox w2 wx hh ys r s6 s7)
  case first =>
    go_region_held3 (fun wz => wz.cell? ⟨w.heap.size, 0, none⟩ = some (.int .i64 h) ∧ wz.cell? ⟨w.heap.size, 1, none⟩ = some (.slice A n c) ∧ wz.cell? ⟨w.heap.size + 1, 0, none⟩ = some (.slice B m d) ∧ wz.cell? ⟨w.heap.size + 1, 1, none⟩ = some (.int .i64 t)) (go_keep)
      (first | (go_at_call 9; (with_reducible refine (toRoutine_row A n c ps h _ (hI.ext (by with_reducible (repeat (first | exact Ext.refl _ | apply Ext.drewN | apply Ext.drew | apply Ext.alloc | (refine Ext.set ?_ (by first | (simp; done) | (simp; omega) | omega) _) | (refine Ext.trans ?_ (by assumption)))))) hn HLM.out).mono ?_); rintro e wa0 ⟨Aa0, ca0, rfl, Ra0, hx_wa0⟩; have hz_wa0 := hx_wa0.size; (try simp at hz_wa0); (try (have hq0_wa0 : w.heap.size < wa0.heap.size := by omega)); (try (have hn0_wa0 : w.heap.size ≠ wa0.heap.size := by omega)); (try (have hm0_wa0 : wa0.heap.size ≠ w.heap.size := by omega)); (try (have hc0_wa0 : ∀ o, wa0.cell? ⟨w.heap.size, o, none⟩ = _ := fun o => hx_wa0.cells.1 _ o (by first | (simp; done) | (simp; omega) | omega))); (try (have hf0_wa0 : ∀ o, wa0.frozen? ⟨w.heap.size, o, none⟩ = _ := fun o => hx_wa0.cells.2 _ o (by first | (simp; done) | (simp; omega) | omega))); (try (have hq1_wa0 : w.heap.size + 1 < wa0.heap.size := by omega)); (try (have hn1_wa0 : w.heap.size + 1 ≠ wa0.heap.size := by omega)); (try (have hm1_wa0 : wa0.heap.size ≠ w.heap.size + 1 := by omega)); (try (have hc1_wa0 : ∀ o, wa0.cell? ⟨w.heap.size + 1, o, none⟩ = _ := fun o => hx_wa0.cells.1 _ o (by first | (simp; done) | (simp; omega) | omega))); (try (have hf1_wa0 : ∀ o, wa0.frozen? ⟨w.heap.size + 1, o, none⟩ = _ := fun o => hx_wa0.cells.2 _ o (by first | (simp; done) | (simp; omega) | omega))); (try (have hq2_wa0 : w2.heap.size < wa0.heap.size := by omega)); (try (have hn2_wa0 : w2.heap.size ≠ wa0.heap.size := by omega)); (try (have hm2_wa0 : wa0.heap.size ≠ w2.heap.size := by omega)); (try (have hc2_wa0 : ∀ o, wa0.cell? ⟨w2.heap.size, o, none⟩ = _ := fun o => hx_wa0.cells.1 _ o (by first | (simp; done) | (simp; omega) | omega))); (try (have hf2_wa0 : ∀ o, wa0.frozen? ⟨w2.heap.size, o, none⟩ = _ := fun o => hx_wa0.cells.2 _ o (by first | (simp; done) | (simp; omega) | omega)))) | (go_at_call 20; (with_reducible refine (toPart_row B m d xs t _ (hJ.ext (by with_reducible (repeat (first | exact Ext.refl _ | apply Ext.drewN | apply Ext.drew | apply Ext.alloc | (refine Ext.set ?_ (by first | (simp; done) | (simp; omega) | omega) _) | (refine Ext.trans ?_ (by assumption)))))) hm).mono ?_); rintro e wb0 ⟨Ab0, cb0, rfl, Rb0, hx_wb0⟩; have hz_wb0 := hx_wb0.size; (try simp at hz_wb0); (try (have hq0_wb0 : w.heap.size < wb0.heap.size := by omega)); (try (have hn0_wb0 : w.heap.size ≠ wb0.heap.size := by omega)); (try (have hm0_wb0 : wb0.heap.size ≠ w.heap.size := by omega)); (try (have hc0_wb0 : ∀ o, wb0.cell? ⟨w.heap.size, o, none⟩ = _ := fun o => hx_wb0.cells.1 _ o (by first | (simp; done) | (simp; omega) | omega))); (try (have hf0_wb0 : ∀ o, wb0.frozen? ⟨w.heap.size, o, none⟩ = _ := fun o => hx_wb0.cells.2 _ o (by first | (simp; done) | (simp; omega) | omega))); (try (have hq1_wb0 : w.heap.size + 1 < wb0.heap.size := by omega)); (try (have hn1_wb0 : w.heap.size + 1 ≠ wb0.heap.size := by omega)); (try (have hm1_wb0 : wb0.heap.size ≠ w.heap.size + 1 := by omega)); (try (have hc1_wb0 : ∀ o, wb0.cell? ⟨w.heap.size + 1, o, none⟩ = _ := fun o => hx_wb0.cells.1 _ o (by first | (simp; done) | (simp; omega) | omega))); (try (have hf1_wb0 : ∀ o, wb0.frozen? ⟨w.heap.size + 1, o, none⟩ = _ := fun o => hx_wb0.cells.2 _ o (by first | (simp; done) | (simp; omega) | omega))); (try (have hq2_wb0 : w2.heap.size < wb0.heap.size := by omega)); (try (have hn2_wb0 : w2.heap.size ≠ wb0.heap.size := by omega)); (try (have hm2_wb0 : wb0.heap.size ≠ w2.heap.size := by omega)); (try (have hc2_wb0 : ∀ o, wb0.cell? ⟨w2.heap.size, o, none⟩ = _ := fun o => hx_wb0.cells.1 _ o (by first | (simp; done) | (simp; omega) | omega))); (try (have hf2_wb0 : ∀ o, wb0.frozen? ⟨w2.heap.size, o, none⟩ = _ := fun o => hx_wb0.cells.2 _ o (by first | (simp; done) | (simp; omega) | omega))); (try (have hq3_wb0 : wa0.heap.size < wb0.heap.size := by omega)); (try (have hn3_wb0 : wa0.heap.size ≠ wb0.heap.size := by omega)); (try (have hm3_wb0 : wb0.heap.size ≠ wa0.heap.size := by omega)); (try (have hc3_wb0 : ∀ o, wb0.cell? ⟨wa0.heap.size, o, none⟩ = _ := fun o => hx_wb0.cells.1 _ o (by first | (simp; done) | (simp; omega) | omega))); (try (have hf3_wb0 : ∀ o, wb0.frozen? ⟨wa0.heap.size, o, none⟩ = _ := fun o => hx_wb0.cells.2 _ o (by first | (simp; done) | (simp; omega) | omega)))) | (go_at_call 19; (with_reducible refine (specAppendPart_is _ _ _ ps h _ _ _ xs t _ ((Ra0.parts (by omega) HBP.out).ext (by with_reducible (repeat (first | exact Ext.refl _ | apply Ext.drewN | apply Ext.drew | apply Ext.alloc | (refine Ext.set ?_ (by first | (simp; done) | (simp; omega) | omega) _) | (refine Ext.trans ?_ (by assumption)))))) ((ints_one Rb0 (by omega) HBX.out).ext (by with_reducible (repeat (first | exact Ext.refl _ | apply Ext.drewN | apply Ext.drew | apply Ext.alloc | (refine Ext.set ?_ (by first | (simp; done) | (simp; omega) | omega) _) | (refine Ext.trans ?_ (by assumption)))))) HY.out).mono ?_); rintro e wc0 ⟨Aw, nw, cw, rfl, Rw, hx_wc0⟩; have hz_wc0 := hx_wc0.size; (try simp at hz_wc0); (try (have hq0_wc0 : w.heap.size < wc0.heap.size := by omega)); (try (have hn0_wc0 : w.heap.size ≠ wc0.heap.size := by omega)); (try (have hm0_wc0 : wc0.heap.size ≠ w.heap.size := by omega)); (try (have hc0_wc0 : ∀ o, wc0.cell? ⟨w.heap.size, o, none⟩ = _ := fun o => hx_wc0.cells.1 _ o (by first | (simp; done) | (simp; omega) | omega))); (try (have hf0_wc0 : ∀ o, wc0.frozen? ⟨w.heap.size, o, none⟩ = _ := fun o => hx_wc0.cells.2 _ o (by first | (simp; done) | (simp; omega) | omega))); (try (have hq1_wc0 : w.heap.size + 1 < wc0.heap.size := by omega)); (try (have hn1_wc0 : w.heap.size + 1 ≠ wc0.heap.size := by omega)); (try (have hm1_wc0 : wc0.heap.size ≠ w.heap.size + 1 := by omega)); (try (have hc1_wc0 : ∀ o, wc0.cell? ⟨w.heap.size + 1, o, none⟩ = _ := fun o => hx_wc0.cells.1 _ o (by first | (simp; done) | (simp; omega) | omega))); (try (have hf1_wc0 : ∀ o, wc0.frozen? ⟨w.heap.size + 1, o, none⟩ = _ := fun o => hx_wc0.cells.2 _ o (by first | (simp; done) | (simp; omega) | omega))); (try (have hq2_wc0 : w2.heap.size < wc0.heap.size := by omega)); (try (have hn2_wc0 : w2.heap.size ≠ wc0.heap.size := by omega)); (try (have hm2_wc0 : wc0.heap.size ≠ w2.heap.size := by omega)); (try (have hc2_wc0 : ∀ o, wc0.cell? ⟨w2.heap.size, o, none⟩ = _ := fun o => hx_wc0.cells.1 _ o (by first | (simp; done) | (simp; omega) | omega))); (try (have hf2_wc0 : ∀ o, wc0.frozen? ⟨w2.heap.size, o, none⟩ = _ := fun o => hx_wc0.cells.2 _ o (by first | (simp; done) | (simp; omega) | omega))); (try (have hq3_wc0 : wa0.heap.size < wc0.heap.size := by omega)); (try (have hn3_wc0 : wa0.heap.size ≠ wc0.heap.size := by omega)); (try (have hm3_wc0 : wc0.heap.size ≠ wa0.heap.size := by omega)); (try (have hc3_wc0 : ∀ o, wc0.cell? ⟨wa0.heap.size, o, none⟩ = _ := fun o => hx_wc0.cells.1 _ o (by first | (simp; done) | (simp; omega) | omega))); (try (have hf3_wc0 : ∀ o, wc0.frozen? ⟨wa0.heap.size, o, none⟩ = _ := fun o => hx_wc0.cells.2 _ o (by first | (simp; done) | (simp; omega) | omega))); (try (have hq4_wc0 : wb0.heap.size < wc0.heap.size := by omega)); (try (have hn4_wc0 : wb0.heap.size ≠ wc0.heap.size := by omega)); (try (have hm4_wc0 : wc0.heap.size ≠ wb0.heap.size := by omega)); (try (have hc4_wc0 : ∀ o, wc0.cell? ⟨wb0.heap.size, o, none⟩ = _ := fun o => hx_wc0.cells.1 _ o (by first | (simp; done) | (simp; omega) | omega))); (try (have hf4_wc0 : ∀ o, wc0.frozen? ⟨wb0.heap.size, o, none⟩ = _ := fun o => hx_wc0.cells.2 _ o (by first | (simp; done) | (simp; omega) | omega)))))
    all_goals (go_wp2_with fail; go_meet)
    all_goals (obtain rfl := Rw.len; refine ⟨rfl, _, Aw, cw, rfl, ?_, ?_, ?_, ?_, ?_, (by with_reducible (repeat (first | exact Ext.refl _ | apply Ext.drewN | apply Ext.drew | apply Ext.alloc | (refine Ext.set ?_ (by first | (simp; done) | (simp; omega) | omega) _) | (refine Ext.trans ?_ (by assumption)))))⟩)
    all_goals first | (simp [World.setCell]; done) | (simp [World.setCell]; omega) | omega | (go_simp; done) | (exact row_box Rw (by first | (simp; done) | (simp; omega) | omega) (by with_reducible (repeat (first | exact Ext.refl _ | apply Ext.drewN | apply Ext.drew | apply Ext.alloc | (refine Ext.set ?_ (by first | (simp; done) | (simp; omega) | omega) _) | (refine Ext.trans ?_ (by assumption))))) (by first | (simp; done) | (simp; omega) | omega) (by first | (left; simp; done) | (left; simp; omega) | (left; omega) | (right; simp; done) | (right; simp; omega))) | (exact (Rw.ext (by with_reducible (repeat (first | exact Ext.refl _ | apply Ext.drewN | apply Ext.drew | apply Ext.alloc | (refine Ext.set ?_ (by first | (simp; done) | (simp; omega) | omega) _) | (refine Ext.trans ?_ (by assumption)))))).wide (by first | (simp; done) | (simp; omega) | omega) (by first | (simp; done) | (simp; omega) | omega)) | trace_state
  case rest =>
    obtain ⟨w3, hw_w3⟩ : ∃ w3, w3 = wc := ⟨_, rfl⟩
    subst hw_w3
    obtain ⟨rfl, g0, Aw, cw, rfl, hg0, hg0s, hb00, hb01, Rw, hx_w3⟩ := hcut
    have hz_w3 := hx_w3.size
    have hq0_w3 : w.heap.size < w3.heap.size := by omega
    have hb00_w3 : w3.cell? ⟨w.heap.size, 0, none⟩ = some (.int .i64 h) := hx_w3.cell (by omega) hb00_w2
    have hb01_w3 : w3.cell? ⟨w.heap.size, 1, none⟩ = some (.slice A n c) := hx_w3.cell (by omega) hb01_w2
    have hq1_w3 : w.heap.size + 1 < w3.heap.size := by omega
    have hb10_w3 : w3.cell? ⟨w.heap.size + 1, 0, none⟩ = some (.slice B m d) := hx_w3.cell (by omega) hb10_w2
    have hb11_w3 : w3.cell? ⟨w.heap.size + 1, 1, none⟩ = some (.int .i64 t) := hx_w3.cell (by omega) hb11_w2
    have hE_w3 : Ext w w3 := hE_w2.trans hx_w3
    have hq2_w3 : g0 < w3.heap.size := hg0s
    have hb20_w3 := hb00
    have hb21_w3 := hb01
    clear hb00 hb01 hx_w3
    (try (have hgn00 : g0 ≠ w.heap.size := by omega)); (try (have hgm00 : w.heap.size ≠ g0 := by omega))
    (try (have hgn01 : g0 ≠ w.heap.size + 1 := by omega)); (try (have hgm01 : w.heap.size + 1 ≠ g0 := by omega))
    have Rw_w3 : PRow w3 (w2.heap.size) w3.heap.size Aw ys.length cw ys := by first | (simpa using Rw) | exact Rw
    clear Rw
    have hlw : w2.heap.size ≤ w3.heap.size := by omega
    go_wp2_with fail
    (with_reducible refine (toRoutine_row A n c ps h _ (hI.ext (by with_reducible (repeat (first | exact Ext.refl _ | apply Ext.drewN | apply Ext.drew | apply Ext.alloc | (refine Ext.set ?_ (by first | (simp; done) | (simp; omega) | omega) _) | (refine Ext.trans ?_ (by assumption)))))) hn HLM.out).mono ?_)
    rintro e w4 ⟨Ax, cx, rfl, Rx, hx_w4⟩
    have hz_w4 := hx_w4.size
    (try simp at hz_w4)
    have hp_w4 : Ext w3 w4 := Ext.trans (by with_reducible (repeat (first | exact Ext.refl _ | apply Ext.drewN | apply Ext.drew | apply Ext.alloc | (refine Ext.set ?_ (by first | (simp; done) | (simp; omega) | omega) _) | (refine Ext.trans ?_ (by assumption))))) hx_w4
    have hq0_w4 : w.heap.size < w4.heap.size := by omega
    have hb00_w4 : w4.cell? ⟨w.heap.size, 0, none⟩ = some (.int .i64 h) := hp_w4.cell (by omega) hb00_w3
    have hb01_w4 : w4.cell? ⟨w.heap.size, 1, none⟩ = some (.slice A n c) := hp_w4.cell (by omega) hb01_w3
    have hq1_w4 : w.heap.size + 1 < w4.heap.size := by omega
    have hb10_w4 : w4.cell? ⟨w.heap.size + 1, 0, none⟩ = some (.slice B m d) := hp_w4.cell (by omega) hb10_w3
    have hb11_w4 : w4.cell? ⟨w.heap.size + 1, 1, none⟩ = some (.int .i64 t) := hp_w4.cell (by omega) hb11_w3
    have hq2_w4 : g0 < w4.heap.size := by omega
    have hb20_w4 : w4.cell? ⟨g0, 0, none⟩ = some (.int .i64 hh) := hp_w4.cell (by omega) hb20_w3
    have hb21_w4 : w4.cell? ⟨g0, 1, none⟩ = some (.slice Aw ys.length cw) := hp_w4.cell (by omega) hb21_w3
    have Rw_w4 := Rw_w3.ext hp_w4
    have hE_w4 : Ext w w4 := Ext.trans (by with_reducible (repeat (first | exact Ext.refl _ | apply Ext.drewN | apply Ext.drew | apply Ext.alloc | (refine Ext.set ?_ (by first | (simp; done) | (simp; omega) | omega) _) | (refine Ext.trans ?_ (by assumption))))) hx_w4
    have Rx_w4 : PRow w4 (w3.heap.size) w4.heap.size Ax n cx ps := by first | (simpa using Rx) | exact Rx
    clear Rx
    have hlx : w3.heap.size ≤ w4.heap.size := by omega
    go_wp2_with fail
    (with_reducible refine (toPart_row B m d xs t _ (hJ.ext (by with_reducible (repeat (first | exact Ext.refl _ | apply Ext.drewN | apply Ext.drew | apply Ext.alloc | (refine Ext.set ?_ (by first | (simp; done) | (simp; omega) | omega) _) | (refine Ext.trans ?_ (by assumption)))))) hm).mono ?_)
    rintro e w5 ⟨Ay, cy, rfl, Ry, hx_w5⟩
    have hz_w5 := hx_w5.size
    (try simp at hz_w5)
    have hp_w5 : Ext w4 w5 := Ext.trans (by with_reducible (repeat (first | exact Ext.refl _ | apply Ext.drewN | apply Ext.drew | apply Ext.alloc | (refine Ext.set ?_ (by first | (simp; done) | (simp; omega) | omega) _) | (refine Ext.trans ?_ (by assumption))))) hx_w5
    have hq0_w5 : w.heap.size < w5.heap.size := by omega
    have hb00_w5 : w5.cell? ⟨w.heap.size, 0, none⟩ = some (.int .i64 h) := hp_w5.cell (by omega) hb00_w4
    have hb01_w5 : w5.cell? ⟨w.heap.size, 1, none⟩ = some (.slice A n c) := hp_w5.cell (by omega) hb01_w4
    have hq1_w5 : w.heap.size + 1 < w5.heap.size := by omega
    have hb10_w5 : w5.cell? ⟨w.heap.size + 1, 0, none⟩ = some (.slice B m d) := hp_w5.cell (by omega) hb10_w4
    have hb11_w5 : w5.cell? ⟨w.heap.size + 1, 1, none⟩ = some (.int .i64 t) := hp_w5.cell (by omega) hb11_w4
    have hq2_w5 : g0 < w5.heap.size := by omega
    have hb20_w5 : w5.cell? ⟨g0, 0, none⟩ = some (.int .i64 hh) := hp_w5.cell (by omega) hb20_w4
    have hb21_w5 : w5.cell? ⟨g0, 1, none⟩ = some (.slice Aw ys.length cw) := hp_w5.cell (by omega) hb21_w4
    have hq3_w5 : w4.heap.size < w5.heap.size := by omega
    have hb30_w5 : w5.cell? ⟨w4.heap.size, 0, none⟩ = some (.int .i64 h) := hx_w5.cell (by first | (simp [World.setCell]; done) | (simp [World.setCell]; omega) | omega) (by go_simp)
    have hb31_w5 : w5.cell? ⟨w4.heap.size, 1, none⟩ = some (.slice Ax n cx) := hx_w5.cell (by first | (simp [World.setCell]; done) | (simp [World.setCell]; omega) | omega) (by go_simp)
    have Rw_w5 := Rw_w4.ext hp_w5
    have Rx_w5 := Rx_w4.ext hp_w5
    have hE_w5 : Ext w w5 := Ext.trans (by with_reducible (repeat (first | exact Ext.refl _ | apply Ext.drewN | apply Ext.drew | apply Ext.alloc | (refine Ext.set ?_ (by first | (simp; done) | (simp; omega) | omega) _) | (refine Ext.trans ?_ (by assumption))))) hx_w5
    have Ry_w5 : Row w5 (w4.heap.size + 1) w5.heap.size 2 1 Ay m cy xs := by first | (simpa using Ry) | exact Ry
    clear Ry
    have hly : w4.heap.size + 1 ≤ w5.heap.size := by omega
    go_wp2_with fail
    (with_reducible refine (implAppendPart_is _ _ _ ps h _ _ _ xs t _ ((Rx_w5.parts (by omega) HBP.out).ext (by with_reducible (repeat (first | exact Ext.refl _ | apply Ext.drewN | apply Ext.drew | apply Ext.alloc | (refine Ext.set ?_ (by first | (simp; done) | (simp; omega) | omega) _) | (refine Ext.trans ?_ (by assumption)))))) ((ints_one (Ry_w5) (by omega) HBX.out).ext (by with_reducible (repeat (first | exact Ext.refl _ | apply Ext.drewN | apply Ext.drew | apply Ext.alloc | (refine Ext.set ?_ (by first | (simp; done) | (simp; omega) | omega) _) | (refine Ext.trans ?_ (by assumption)))))) ht HY.out).mono ?_)
    rintro e w6 ⟨Ag, ng, cg, rfl, Rg, hx_w6⟩
    obtain rfl := Rg.len
    have hz_w6 := hx_w6.size
    (try simp at hz_w6)
    have hp_w6 : Ext w5 w6 := Ext.trans (by with_reducible (repeat (first | exact Ext.refl _ | apply Ext.drewN | apply Ext.drew | apply Ext.alloc | (refine Ext.set ?_ (by first | (simp; done) | (simp; omega) | omega) _) | (refine Ext.trans ?_ (by assumption))))) hx_w6
    have hq0_w6 : w.heap.size < w6.heap.size := by omega
    have hb00_w6 : w6.cell? ⟨w.heap.size, 0, none⟩ = some (.int .i64 h) := hp_w6.cell (by omega) hb00_w5
    have hb01_w6 : w6.cell? ⟨w.heap.size, 1, none⟩ = some (.slice A n c) := hp_w6.cell (by omega) hb01_w5
    have hq1_w6 : w.heap.size + 1 < w6.heap.size := by omega
    have hb10_w6 : w6.cell? ⟨w.heap.size + 1, 0, none⟩ = some (.slice B m d) := hp_w6.cell (by omega) hb10_w5
    have hb11_w6 : w6.cell? ⟨w.heap.size + 1, 1, none⟩ = some (.int .i64 t) := hp_w6.cell (by omega) hb11_w5
    have hq2_w6 : g0 < w6.heap.size := by omega
    have hb20_w6 : w6.cell? ⟨g0, 0, none⟩ = some (.int .i64 hh) := hp_w6.cell (by omega) hb20_w5
    have hb21_w6 : w6.cell? ⟨g0, 1, none⟩ = some (.slice Aw ys.length cw) := hp_w6.cell (by omega) hb21_w5
    have hq3_w6 : w4.heap.size < w6.heap.size := by omega
    have hb30_w6 : w6.cell? ⟨w4.heap.size, 0, none⟩ = some (.int .i64 h) := hp_w6.cell (by omega) hb30_w5
    have hb31_w6 : w6.cell? ⟨w4.heap.size, 1, none⟩ = some (.slice Ax n cx) := hp_w6.cell (by omega) hb31_w5
    have hq4_w6 : w5.heap.size < w6.heap.size := by omega
    have hb40_w6 : w6.cell? ⟨w5.heap.size, 0, none⟩ = some (.slice Ay m cy) := hx_w6.cell (by first | (simp [World.setCell]; done) | (simp [World.setCell]; omega) | omega) (by go_simp)
    have hb41_w6 : w6.cell? ⟨w5.heap.size, 1, none⟩ = some (.int .i64 t) := hx_w6.cell (by first | (simp [World.setCell]; done) | (simp [World.setCell]; omega) | omega) (by go_simp)
    have Rw_w6 := Rw_w5.ext hp_w6
    have Rx_w6 := Rx_w5.ext hp_w6
    have Ry_w6 := Ry_w5.ext hp_w6
    have hE_w6 : Ext w w6 := Ext.trans (by with_reducible (repeat (first | exact Ext.refl _ | apply Ext.drewN | apply Ext.drew | apply Ext.alloc | (refine Ext.set ?_ (by first | (simp; done) | (simp; omega) | omega) _) | (refine Ext.trans ?_ (by assumption))))) hx_w6
    have Rg_w6 : PRow w6 (w5.heap.size + 1) w6.heap.size Ag ys.length cg ys := by first | (simpa using Rg) | exact Rg
    clear Rg
    have hlg : w5.heap.size + 1 ≤ w6.heap.size := by omega
    go_wp2_with fail
    (with_reducible refine (eqRoutine_same _ _ _ _ _ ys hh _ ((Rg_w6.parts (by omega) HYB.out.2).ext (by with_reducible (repeat (first | exact Ext.refl _ | apply Ext.drewN | apply Ext.drew | apply Ext.alloc | (refine Ext.set ?_ (by first | (simp; done) | (simp; omega) | omega) _) | (refine Ext.trans ?_ (by assumption)))))) ((Rw_w6.parts (by omega) HYB.out.2).ext (by with_reducible (repeat (first | exact Ext.refl _ | apply Ext.drewN | apply Ext.drew | apply Ext.alloc | (refine Ext.set ?_ (by first | (simp; done) | (simp; omega) | omega) _) | (refine Ext.trans ?_ (by assumption))))))).mono ?_)
    rintro e w7 ⟨rfl, hx_w7⟩
    have hz_w7 := hx_w7.size
    (try simp at hz_w7)
    have hp_w7 : Ext w6 w7 := Ext.trans (by with_reducible (repeat (first | exact Ext.refl _ | apply Ext.drewN | apply Ext.drew | apply Ext.alloc | (refine Ext.set ?_ (by first | (simp; done) | (simp; omega) | omega) _) | (refine Ext.trans ?_ (by assumption))))) hx_w7
    have hq0_w7 : w.heap.size < w7.heap.size := by omega
    have hb00_w7 : w7.cell? ⟨w.heap.size, 0, none⟩ = some (.int .i64 h) := hp_w7.cell (by omega) hb00_w6
    have hb01_w7 : w7.cell? ⟨w.heap.size, 1, none⟩ = some (.slice A n c) := hp_w7.cell (by omega) hb01_w6
    have hq1_w7 : w.heap.size + 1 < w7.heap.size := by omega
    have hb10_w7 : w7.cell? ⟨w.heap.size + 1, 0, none⟩ = some (.slice B m d) := hp_w7.cell (by omega) hb10_w6
    have hb11_w7 : w7.cell? ⟨w.heap.size + 1, 1, none⟩ = some (.int .i64 t) := hp_w7.cell (by omega) hb11_w6
    have hq2_w7 : g0 < w7.heap.size := by omega
    have hb20_w7 : w7.cell? ⟨g0, 0, none⟩ = some (.int .i64 hh) := hp_w7.cell (by omega) hb20_w6
    have hb21_w7 : w7.cell? ⟨g0, 1, none⟩ = some (.slice Aw ys.length cw) := hp_w7.cell (by omega) hb21_w6
    have hq3_w7 : w4.heap.size < w7.heap.size := by omega
    have hb30_w7 : w7.cell? ⟨w4.heap.size, 0, none⟩ = some (.int .i64 h) := hp_w7.cell (by omega) hb30_w6
    have hb31_w7 : w7.cell? ⟨w4.heap.size, 1, none⟩ = some (.slice Ax n cx) := hp_w7.cell (by omega) hb31_w6
    have hq4_w7 : w5.heap.size < w7.heap.size := by omega
    have hb40_w7 : w7.cell? ⟨w5.heap.size, 0, none⟩ = some (.slice Ay m cy) := hp_w7.cell (by omega) hb40_w6
    have hb41_w7 : w7.cell? ⟨w5.heap.size, 1, none⟩ = some (.int .i64 t) := hp_w7.cell (by omega) hb41_w6
    have hq5_w7 : w6.heap.size < w7.heap.size := by omega
    have hb50_w7 : w7.cell? ⟨w6.heap.size, 0, none⟩ = some (.int .i64 hh) := hx_w7.cell (by first | (simp [World.setCell]; done) | (simp [World.setCell]; omega) | omega) (by go_simp)
    have hb51_w7 : w7.cell? ⟨w6.heap.size, 1, none⟩ = some (.slice Ag ys.length cg) := hx_w7.cell (by first | (simp [World.setCell]; done) | (simp [World.setCell]; omega) | omega) (by go_simp)
    have Rw_w7 := Rw_w6.ext hp_w7
    have Rx_w7 := Rx_w6.ext hp_w7
    have Ry_w7 := Ry_w6.ext hp_w7
    have Rg_w7 := Rg_w6.ext hp_w7
    have hE_w7 : Ext w w7 := Ext.trans (by with_reducible (repeat (first | exact Ext.refl _ | apply Ext.drewN | apply Ext.drew | apply Ext.alloc | (refine Ext.set ?_ (by first | (simp; done) | (simp; omega) | omega) _) | (refine Ext.trans ?_ (by assumption))))) hx_w7
    go_wp2
    go_region_held3 (fun wz => wz.cell? ⟨w.heap.size, 0, none⟩ = some (.int .i64 h) ∧ wz.cell? ⟨w.heap.size, 1, none⟩ = some (.slice A n c) ∧ wz.cell? ⟨w4.heap.size, 0, none⟩ = some (.int .i64 h) ∧ wz.cell? ⟨w4.heap.size, 1, none⟩ = some (.slice Ax n cx)) (go_keep)
      (first | (go_at_call 9; (with_reducible refine (toRoutine_row A n c ps h _ (hI.ext (by with_reducible (repeat (first | exact Ext.refl _ | apply Ext.drewN | apply Ext.drew | apply Ext.alloc | (refine Ext.set ?_ (by first | (simp; done) | (simp; omega) | omega) _) | (refine Ext.trans ?_ (by assumption)))))) hn HLM.out).mono ?_); rintro e wy1 ⟨Ay1, cy1, rfl, Ry1, hx_wy1⟩; have hz_wy1 := hx_wy1.size; (try simp at hz_wy1); (have hq0_wy1 : w.heap.size < wy1.heap.size := by omega); (have hc0_wy1 : ∀ o, wy1.cell? ⟨w.heap.size, o, none⟩ = _ := fun o => hx_wy1.cells.1 _ o (by first | (simp; done) | (simp; omega) | omega)); (have hf0_wy1 : ∀ o, wy1.frozen? ⟨w.heap.size, o, none⟩ = _ := fun o => hx_wy1.cells.2 _ o (by first | (simp; done) | (simp; omega) | omega)); (have hq1_wy1 : w4.heap.size < wy1.heap.size := by omega); (have hc1_wy1 : ∀ o, wy1.cell? ⟨w4.heap.size, o, none⟩ = _ := fun o => hx_wy1.cells.1 _ o (by first | (simp; done) | (simp; omega) | omega)); (have hf1_wy1 : ∀ o, wy1.frozen? ⟨w4.heap.size, o, none⟩ = _ := fun o => hx_wy1.cells.2 _ o (by first | (simp; done) | (simp; omega) | omega))) | (go_at_call 11; (with_reducible refine (eqRoutine_same _ _ _ _ _ ps h _ ((Rx_w7.parts (by omega) HBP.out).ext (by with_reducible (repeat (first | exact Ext.refl _ | apply Ext.drewN | apply Ext.drew | apply Ext.alloc | (refine Ext.set ?_ (by first | (simp; done) | (simp; omega) | omega) _) | (refine Ext.trans ?_ (by assumption)))))) ((Ry1.parts (by omega) HBP.out).ext (by with_reducible (repeat (first | exact Ext.refl _ | apply Ext.drewN | apply Ext.drew | apply Ext.alloc | (refine Ext.set ?_ (by first | (simp; done) | (simp; omega) | omega) _) | (refine Ext.trans ?_ (by assumption))))))).mono ?_); rintro e wz1 ⟨rfl, hx_wz1⟩; have hz_wz1 := hx_wz1.size; (try simp at hz_wz1); (have hq0_wz1 : w.heap.size < wz1.heap.size := by omega); (have hc0_wz1 : ∀ o, wz1.cell? ⟨w.heap.size, o, none⟩ = _ := fun o => hx_wz1.cells.1 _ o (by first | (simp; done) | (simp; omega) | omega)); (have hf0_wz1 : ∀ o, wz1.frozen? ⟨w.heap.size, o, none⟩ = _ := fun o => hx_wz1.cells.2 _ o (by first | (simp; done) | (simp; omega) | omega)); (have hq1_wz1 : w4.heap.size < wz1.heap.size := by omega); (have hc1_wz1 : ∀ o, wz1.cell? ⟨w4.heap.size, o, none⟩ = _ := fun o => hx_wz1.cells.1 _ o (by first | (simp; done) | (simp; omega) | omega)); (have hf1_wz1 : ∀ o, wz1.frozen? ⟨w4.heap.size, o, none⟩ = _ := fun o => hx_wz1.cells.2 _ o (by first | (simp; done) | (simp; omega) | omega))))
    obtain ⟨w8, hw_w8⟩ : ∃ w8, w8 = wz1 := ⟨_, rfl⟩
    have hx_w8 : Ext w7 w8 := hw_w8.symm ▸ Ext.trans (by with_reducible (repeat (first | exact Ext.refl _ | apply Ext.drewN | apply Ext.drew | apply Ext.alloc | (refine Ext.set ?_ (by first | (simp; done) | (simp; omega) | omega) _) | (refine Ext.trans ?_ (by assumption))))) hx_wz1
    have hz_w8 := hx_w8.size
    have hq0_w8 : w.heap.size < w8.heap.size := by omega
    have hb00_w8 : w8.cell? ⟨w.heap.size, 0, none⟩ = some (.int .i64 h) := hx_w8.cell (by omega) hb00_w7
    have hb01_w8 : w8.cell? ⟨w.heap.size, 1, none⟩ = some (.slice A n c) := hx_w8.cell (by omega) hb01_w7
    have hq1_w8 : w.heap.size + 1 < w8.heap.size := by omega
    have hb10_w8 : w8.cell? ⟨w.heap.size + 1, 0, none⟩ = some (.slice B m d) := hx_w8.cell (by omega) hb10_w7
    have hb11_w8 : w8.cell? ⟨w.heap.size + 1, 1, none⟩ = some (.int .i64 t) := hx_w8.cell (by omega) hb11_w7
    have hq2_w8 : g0 < w8.heap.size := by omega
    have hb20_w8 : w8.cell? ⟨g0, 0, none⟩ = some (.int .i64 hh) := hx_w8.cell (by omega) hb20_w7
    have hb21_w8 : w8.cell? ⟨g0, 1, none⟩ = some (.slice Aw ys.length cw) := hx_w8.cell (by omega) hb21_w7
    have hq3_w8 : w4.heap.size < w8.heap.size := by omega
    have hb30_w8 : w8.cell? ⟨w4.heap.size, 0, none⟩ = some (.int .i64 h) := hx_w8.cell (by omega) hb30_w7
    have hb31_w8 : w8.cell? ⟨w4.heap.size, 1, none⟩ = some (.slice Ax n cx) := hx_w8.cell (by omega) hb31_w7
    have hq4_w8 : w5.heap.size < w8.heap.size := by omega
    have hb40_w8 : w8.cell? ⟨w5.heap.size, 0, none⟩ = some (.slice Ay m cy) := hx_w8.cell (by omega) hb40_w7
    have hb41_w8 : w8.cell? ⟨w5.heap.size, 1, none⟩ = some (.int .i64 t) := hx_w8.cell (by omega) hb41_w7
    have hq5_w8 : w6.heap.size < w8.heap.size := by omega
    have hb50_w8 : w8.cell? ⟨w6.heap.size, 0, none⟩ = some (.int .i64 hh) := hx_w8.cell (by omega) hb50_w7
    have hb51_w8 : w8.cell? ⟨w6.heap.size, 1, none⟩ = some (.slice Ag ys.length cg) := hx_w8.cell (by omega) hb51_w7
    have Rw_w8 := Rw_w7.ext hx_w8
    have Rx_w8 := Rx_w7.ext hx_w8
    have Ry_w8 := Ry_w7.ext hx_w8
    have Rg_w8 := Rg_w7.ext hx_w8
    have hE_w8 : Ext w w8 := hE_w7.trans hx_w8
    clear hx_w8
    subst hw_w8
    go_wp2
    go_region_held3 (fun wz => wz.cell? ⟨w.heap.size + 1, 0, none⟩ = some (.slice B m d) ∧ wz.cell? ⟨w.heap.size + 1, 1, none⟩ = some (.int .i64 t) ∧ wz.cell? ⟨w5.heap.size, 0, none⟩ = some (.slice Ay m cy) ∧ wz.cell? ⟨w5.heap.size, 1, none⟩ = some (.int .i64 t)) (go_keep)
      (first | (go_at_call 20; (with_reducible refine (toPart_row B m d xs t _ (hJ.ext (by with_reducible (repeat (first | exact Ext.refl _ | apply Ext.drewN | apply Ext.drew | apply Ext.alloc | (refine Ext.set ?_ (by first | (simp; done) | (simp; omega) | omega) _) | (refine Ext.trans ?_ (by assumption)))))) hm).mono ?_); rintro e wy2 ⟨Ay2, cy2, rfl, Ry2, hx_wy2⟩; have hz_wy2 := hx_wy2.size; (try simp at hz_wy2); (have hq0_wy2 : w.heap.size + 1 < wy2.heap.size := by omega); (have hc0_wy2 : ∀ o, wy2.cell? ⟨w.heap.size + 1, o, none⟩ = _ := fun o => hx_wy2.cells.1 _ o (by first | (simp; done) | (simp; omega) | omega)); (have hf0_wy2 : ∀ o, wy2.frozen? ⟨w.heap.size + 1, o, none⟩ = _ := fun o => hx_wy2.cells.2 _ o (by first | (simp; done) | (simp; omega) | omega)); (have hq1_wy2 : w5.heap.size < wy2.heap.size := by omega); (have hc1_wy2 : ∀ o, wy2.cell? ⟨w5.heap.size, o, none⟩ = _ := fun o => hx_wy2.cells.1 _ o (by first | (simp; done) | (simp; omega) | omega)); (have hf1_wy2 : ∀ o, wy2.frozen? ⟨w5.heap.size, o, none⟩ = _ := fun o => hx_wy2.cells.2 _ o (by first | (simp; done) | (simp; omega) | omega))) | (go_at_call 22; (with_reducible refine (eqPart_same _ _ _ _ _ xs t _ ((ints_one (Ry_w8) (by omega) HBX.out).ext (by with_reducible (repeat (first | exact Ext.refl _ | apply Ext.drewN | apply Ext.drew | apply Ext.alloc | (refine Ext.set ?_ (by first | (simp; done) | (simp; omega) | omega) _) | (refine Ext.trans ?_ (by assumption)))))) ((ints_one Ry2 (by omega) HBX.out).ext (by with_reducible (repeat (first | exact Ext.refl _ | apply Ext.drewN | apply Ext.drew | apply Ext.alloc | (refine Ext.set ?_ (by first | (simp; done) | (simp; omega) | omega) _) | (refine Ext.trans ?_ (by assumption))))))).mono ?_); rintro e wz2 ⟨rfl, hx_wz2⟩; have hz_wz2 := hx_wz2.size; (try simp at hz_wz2); (have hq0_wz2 : w.heap.size + 1 < wz2.heap.size := by omega); (have hc0_wz2 : ∀ o, wz2.cell? ⟨w.heap.size + 1, o, none⟩ = _ := fun o => hx_wz2.cells.1 _ o (by first | (simp; done) | (simp; omega) | omega)); (have hf0_wz2 : ∀ o, wz2.frozen? ⟨w.heap.size + 1, o, none⟩ = _ := fun o => hx_wz2.cells.2 _ o (by first | (simp; done) | (simp; omega) | omega)); (have hq1_wz2 : w5.heap.size < wz2.heap.size := by omega); (have hc1_wz2 : ∀ o, wz2.cell? ⟨w5.heap.size, o, none⟩ = _ := fun o => hx_wz2.cells.1 _ o (by first | (simp; done) | (simp; omega) | omega)); (have hf1_wz2 : ∀ o, wz2.frozen? ⟨w5.heap.size, o, none⟩ = _ := fun o => hx_wz2.cells.2 _ o (by first | (simp; done) | (simp; omega) | omega))))
    obtain ⟨w9, hw_w9⟩ : ∃ w9, w9 = wz2 := ⟨_, rfl⟩
    have hx_w9 : Ext w8 w9 := hw_w9.symm ▸ Ext.trans (by with_reducible (repeat (first | exact Ext.refl _ | apply Ext.drewN | apply Ext.drew | apply Ext.alloc | (refine Ext.set ?_ (by first | (simp; done) | (simp; omega) | omega) _) | (refine Ext.trans ?_ (by assumption))))) hx_wz2
    have hz_w9 := hx_w9.size
    have hq0_w9 : w.heap.size < w9.heap.size := by omega
    have hb00_w9 : w9.cell? ⟨w.heap.size, 0, none⟩ = some (.int .i64 h) := hx_w9.cell (by omega) hb00_w8
    have hb01_w9 : w9.cell? ⟨w.heap.size, 1, none⟩ = some (.slice A n c) := hx_w9.cell (by omega) hb01_w8
    have hq1_w9 : w.heap.size + 1 < w9.heap.size := by omega
    have hb10_w9 : w9.cell? ⟨w.heap.size + 1, 0, none⟩ = some (.slice B m d) := hx_w9.cell (by omega) hb10_w8
    have hb11_w9 : w9.cell? ⟨w.heap.size + 1, 1, none⟩ = some (.int .i64 t) := hx_w9.cell (by omega) hb11_w8
    have hq2_w9 : g0 < w9.heap.size := by omega
    have hb20_w9 : w9.cell? ⟨g0, 0, none⟩ = some (.int .i64 hh) := hx_w9.cell (by omega) hb20_w8
    have hb21_w9 : w9.cell? ⟨g0, 1, none⟩ = some (.slice Aw ys.length cw) := hx_w9.cell (by omega) hb21_w8
    have hq3_w9 : w4.heap.size < w9.heap.size := by omega
    have hb30_w9 : w9.cell? ⟨w4.heap.size, 0, none⟩ = some (.int .i64 h) := hx_w9.cell (by omega) hb30_w8
    have hb31_w9 : w9.cell? ⟨w4.heap.size, 1, none⟩ = some (.slice Ax n cx) := hx_w9.cell (by omega) hb31_w8
    have hq4_w9 : w5.heap.size < w9.heap.size := by omega
    have hb40_w9 : w9.cell? ⟨w5.heap.size, 0, none⟩ = some (.slice Ay m cy) := hx_w9.cell (by omega) hb40_w8
    have hb41_w9 : w9.cell? ⟨w5.heap.size, 1, none⟩ = some (.int .i64 t) := hx_w9.cell (by omega) hb41_w8
    have hq5_w9 : w6.heap.size < w9.heap.size := by omega
    have hb50_w9 : w9.cell? ⟨w6.heap.size, 0, none⟩ = some (.int .i64 hh) := hx_w9.cell (by omega) hb50_w8
    have hb51_w9 : w9.cell? ⟨w6.heap.size, 1, none⟩ = some (.slice Ag ys.length cg) := hx_w9.cell (by omega) hb51_w8
    have Rw_w9 := Rw_w8.ext hx_w9
    have Rx_w9 := Rx_w8.ext hx_w9
    have Ry_w9 := Ry_w8.ext hx_w9
    have Rg_w9 := Rg_w8.ext hx_w9
    have hE_w9 : Ext w w9 := hE_w8.trans hx_w9
    clear hx_w9
    subst hw_w9
    have hsmK := sm_lt (f := (fun i => (pt ps i).length)) HLM.out (n := n) (by omega) (Nat.le_refl _)
    obtain ⟨K, hK⟩ : ∃ K : Int, 1 + sm (fun i => (pt ps i).length) n = K := ⟨_, rfl⟩
    go_wp2_with fail
    (with_reducible refine (markRoutine_own _ _ _ n _ _ 1 ps _ Rx_w9 (by omega) (by omega) (fun i => (pt ps i).length) (fun i hi => ⟨rfl, HLM.out i hi⟩) (by omega)).mono ?_)
    rintro e w10 ⟨he_w10, hk_w10, Rx_w10⟩
    rw [hK] at he_w10
    subst he_w10
    have hz_w10 := hk_w10.size
    have hq0_w10 : w.heap.size < w10.heap.size := by omega
    have hb00_w10 : w10.cell? ⟨w.heap.size, 0, none⟩ = some (.int .i64 h) := hk_w10.cell (by omega) (by omega) hb00_w9
    have hb01_w10 : w10.cell? ⟨w.heap.size, 1, none⟩ = some (.slice A n c) := hk_w10.cell (by omega) (by omega) hb01_w9
    have hq1_w10 : w.heap.size + 1 < w10.heap.size := by omega
    have hb10_w10 : w10.cell? ⟨w.heap.size + 1, 0, none⟩ = some (.slice B m d) := hk_w10.cell (by omega) (by omega) hb10_w9
    have hb11_w10 : w10.cell? ⟨w.heap.size + 1, 1, none⟩ = some (.int .i64 t) := hk_w10.cell (by omega) (by omega) hb11_w9
    have hq2_w10 : g0 < w10.heap.size := by omega
    have hb20_w10 : w10.cell? ⟨g0, 0, none⟩ = some (.int .i64 hh) := hk_w10.cell (by omega) (by omega) hb20_w9
    have hb21_w10 : w10.cell? ⟨g0, 1, none⟩ = some (.slice Aw ys.length cw) := hk_w10.cell (by omega) (by omega) hb21_w9
    have hq3_w10 : w4.heap.size < w10.heap.size := by omega
    have hb30_w10 : w10.cell? ⟨w4.heap.size, 0, none⟩ = some (.int .i64 h) := hk_w10.cell (by omega) (by omega) hb30_w9
    have hb31_w10 : w10.cell? ⟨w4.heap.size, 1, none⟩ = some (.slice Ax n cx) := hk_w10.cell (by omega) (by omega) hb31_w9
    have hq4_w10 : w5.heap.size < w10.heap.size := by omega
    have hb40_w10 : w10.cell? ⟨w5.heap.size, 0, none⟩ = some (.slice Ay m cy) := hk_w10.cell (by omega) (by omega) hb40_w9
    have hb41_w10 : w10.cell? ⟨w5.heap.size, 1, none⟩ = some (.int .i64 t) := hk_w10.cell (by omega) (by omega) hb41_w9
    have hq5_w10 : w6.heap.size < w10.heap.size := by omega
    have hb50_w10 : w10.cell? ⟨w6.heap.size, 0, none⟩ = some (.int .i64 hh) := hk_w10.cell (by omega) (by omega) hb50_w9
    have hb51_w10 : w10.cell? ⟨w6.heap.size, 1, none⟩ = some (.slice Ag ys.length cg) := hk_w10.cell (by omega) (by omega) hb51_w9
    have Rw_w10 := Rw_w9.held hk_w10 (by omega)
    have Ry_w10 := Ry_w9.held hk_w10 (by omega)
    have Rg_w10 := Rg_w9.held hk_w10 (by omega)
    have hE_w10 : Ext w w10 := hk_w10.ext hE_w9 (by omega)
    clear hk_w10
    have hnegK : ¬ K < 0 := by omega
    have hbdK : 0 ≤ K ∧ K ≤ 1200000000000 := by omega
    have HK := Lib.hid hK
    clear hK hsmK
    obtain ⟨L, hL⟩ : ∃ L : Int, K + (m : Int) = L := ⟨_, rfl⟩
    go_wp2_with fail
    (with_reducible refine (markPart_own _ _ _ m _ K t xs _ Ry_w10 (by omega) (by omega) (by omega)).mono ?_)
    rintro e w11 ⟨he_w11, hk_w11⟩
    rw [hL] at he_w11
    subst he_w11
    have hz_w11 := hk_w11.size
    have hq0_w11 : w.heap.size < w11.heap.size := by omega
    have hb00_w11 : w11.cell? ⟨w.heap.size, 0, none⟩ = some (.int .i64 h) := hk_w11.cell (by omega) (by omega) hb00_w10
    have hb01_w11 : w11.cell? ⟨w.heap.size, 1, none⟩ = some (.slice A n c) := hk_w11.cell (by omega) (by omega) hb01_w10
    have hq1_w11 : w.heap.size + 1 < w11.heap.size := by omega
    have hb10_w11 : w11.cell? ⟨w.heap.size + 1, 0, none⟩ = some (.slice B m d) := hk_w11.cell (by omega) (by omega) hb10_w10
    have hb11_w11 : w11.cell? ⟨w.heap.size + 1, 1, none⟩ = some (.int .i64 t) := hk_w11.cell (by omega) (by omega) hb11_w10
    have hq2_w11 : g0 < w11.heap.size := by omega
    have hb20_w11 : w11.cell? ⟨g0, 0, none⟩ = some (.int .i64 hh) := hk_w11.cell (by omega) (by omega) hb20_w10
    have hb21_w11 : w11.cell? ⟨g0, 1, none⟩ = some (.slice Aw ys.length cw) := hk_w11.cell (by omega) (by omega) hb21_w10
    have hq3_w11 : w4.heap.size < w11.heap.size := by omega
    have hb30_w11 : w11.cell? ⟨w4.heap.size, 0, none⟩ = some (.int .i64 h) := hk_w11.cell (by omega) (by omega) hb30_w10
    have hb31_w11 : w11.cell? ⟨w4.heap.size, 1, none⟩ = some (.slice Ax n cx) := hk_w11.cell (by omega) (by omega) hb31_w10
    have hq4_w11 : w5.heap.size < w11.heap.size := by omega
    have hb40_w11 : w11.cell? ⟨w5.heap.size, 0, none⟩ = some (.slice Ay m cy) := hk_w11.cell (by omega) (by omega) hb40_w10
    have hb41_w11 : w11.cell? ⟨w5.heap.size, 1, none⟩ = some (.int .i64 t) := hk_w11.cell (by omega) (by omega) hb41_w10
    have hq5_w11 : w6.heap.size < w11.heap.size := by omega
    have hb50_w11 : w11.cell? ⟨w6.heap.size, 0, none⟩ = some (.int .i64 hh) := hk_w11.cell (by omega) (by omega) hb50_w10
    have hb51_w11 : w11.cell? ⟨w6.heap.size, 1, none⟩ = some (.slice Ag ys.length cg) := hk_w11.cell (by omega) (by omega) hb51_w10
    have Rw_w11 := Rw_w10.held hk_w11 (by omega)
    have Rg_w11 := Rg_w10.held hk_w11 (by omega)
    have hE_w11 : Ext w w11 := hk_w11.ext hE_w10 (by omega)
    clear hk_w11
    have hnegL : ¬ L < 0 := by omega
    clear hL
    go_wp2_with fail
    (with_reducible refine (eqRoutine_same _ _ _ _ _ ys hh _ ((Rg_w11.parts (by omega) HYB.out.2).ext (by with_reducible (repeat (first | exact Ext.refl _ | apply Ext.drewN | apply Ext.drew | apply Ext.alloc | (refine Ext.set ?_ (by first | (simp; done) | (simp; omega) | omega) _) | (refine Ext.trans ?_ (by assumption)))))) ((Rw_w11.parts (by omega) HYB.out.2).ext (by with_reducible (repeat (first | exact Ext.refl _ | apply Ext.drewN | apply Ext.drew | apply Ext.alloc | (refine Ext.set ?_ (by first | (simp; done) | (simp; omega) | omega) _) | (refine Ext.trans ?_ (by assumption))))))).mono ?_)
    rintro e w12 ⟨rfl, hx_w12⟩
    have hz_w12 := hx_w12.size
    (try simp at hz_w12)
    have hp_w12 : Ext w11 w12 := Ext.trans (by with_reducible (repeat (first | exact Ext.refl _ | apply Ext.drewN | apply Ext.drew | apply Ext.alloc | (refine Ext.set ?_ (by first | (simp; done) | (simp; omega) | omega) _) | (refine Ext.trans ?_ (by assumption))))) hx_w12
    have hq0_w12 : w.heap.size < w12.heap.size := by omega
    have hb00_w12 : w12.cell? ⟨w.heap.size, 0, none⟩ = some (.int .i64 h) := hp_w12.cell (by omega) hb00_w11
    have hb01_w12 : w12.cell? ⟨w.heap.size, 1, none⟩ = some (.slice A n c) := hp_w12.cell (by omega) hb01_w11
    have hq1_w12 : w.heap.size + 1 < w12.heap.size := by omega
    have hb10_w12 : w12.cell? ⟨w.heap.size + 1, 0, none⟩ = some (.slice B m d) := hp_w12.cell (by omega) hb10_w11
    have hb11_w12 : w12.cell? ⟨w.heap.size + 1, 1, none⟩ = some (.int .i64 t) := hp_w12.cell (by omega) hb11_w11
    have hq2_w12 : g0 < w12.heap.size := by omega
    have hb20_w12 : w12.cell? ⟨g0, 0, none⟩ = some (.int .i64 hh) := hp_w12.cell (by omega) hb20_w11
    have hb21_w12 : w12.cell? ⟨g0, 1, none⟩ = some (.slice Aw ys.length cw) := hp_w12.cell (by omega) hb21_w11
    have hq3_w12 : w4.heap.size < w12.heap.size := by omega
    have hb30_w12 : w12.cell? ⟨w4.heap.size, 0, none⟩ = some (.int .i64 h) := hp_w12.cell (by omega) hb30_w11
    have hb31_w12 : w12.cell? ⟨w4.heap.size, 1, none⟩ = some (.slice Ax n cx) := hp_w12.cell (by omega) hb31_w11
    have hq4_w12 : w5.heap.size < w12.heap.size := by omega
    have hb40_w12 : w12.cell? ⟨w5.heap.size, 0, none⟩ = some (.slice Ay m cy) := hp_w12.cell (by omega) hb40_w11
    have hb41_w12 : w12.cell? ⟨w5.heap.size, 1, none⟩ = some (.int .i64 t) := hp_w12.cell (by omega) hb41_w11
    have hq5_w12 : w6.heap.size < w12.heap.size := by omega
    have hb50_w12 : w12.cell? ⟨w6.heap.size, 0, none⟩ = some (.int .i64 hh) := hp_w12.cell (by omega) hb50_w11
    have hb51_w12 : w12.cell? ⟨w6.heap.size, 1, none⟩ = some (.slice Ag ys.length cg) := hp_w12.cell (by omega) hb51_w11
    have Rw_w12 := Rw_w11.ext hp_w12
    have Rg_w12 := Rg_w11.ext hp_w12
    have hE_w12 : Ext w w12 := Ext.trans (by with_reducible (repeat (first | exact Ext.refl _ | apply Ext.drewN | apply Ext.drew | apply Ext.alloc | (refine Ext.set ?_ (by first | (simp; done) | (simp; omega) | omega) _) | (refine Ext.trans ?_ (by assumption))))) hx_w12
    have hsmM := sm_lt (f := (fun i => (pt ys i).length)) HYL.out (n := ys.length) (by omega) (Nat.le_refl _)
    obtain ⟨M, hM⟩ : ∃ M : Int, 1 + sm (fun i => (pt ys i).length) ys.length = M := ⟨_, rfl⟩
    go_wp2_with fail
    (with_reducible refine (markRoutine_own _ _ _ ys.length _ _ 1 ys _ Rg_w12 (by omega) (by omega) (fun i => (pt ys i).length) (fun i hi => ⟨rfl, HYL.out i hi⟩) (by omega)).mono ?_)
    rintro e w13 ⟨he_w13, hk_w13, Rg_w13⟩
    rw [hM] at he_w13
    subst he_w13
    have hz_w13 := hk_w13.size
    have hq0_w13 : w.heap.size < w13.heap.size := by omega
    have hb00_w13 : w13.cell? ⟨w.heap.size, 0, none⟩ = some (.int .i64 h) := hk_w13.cell (by omega) (by omega) hb00_w12
    have hb01_w13 : w13.cell? ⟨w.heap.size, 1, none⟩ = some (.slice A n c) := hk_w13.cell (by omega) (by omega) hb01_w12
    have hq1_w13 : w.heap.size + 1 < w13.heap.size := by omega
    have hb10_w13 : w13.cell? ⟨w.heap.size + 1, 0, none⟩ = some (.slice B m d) := hk_w13.cell (by omega) (by omega) hb10_w12
    have hb11_w13 : w13.cell? ⟨w.heap.size + 1, 1, none⟩ = some (.int .i64 t) := hk_w13.cell (by omega) (by omega) hb11_w12
    have hq2_w13 : g0 < w13.heap.size := by omega
    have hb20_w13 : w13.cell? ⟨g0, 0, none⟩ = some (.int .i64 hh) := hk_w13.cell (by omega) (by omega) hb20_w12
    have hb21_w13 : w13.cell? ⟨g0, 1, none⟩ = some (.slice Aw ys.length cw) := hk_w13.cell (by omega) (by omega) hb21_w12
    have hq3_w13 : w4.heap.size < w13.heap.size := by omega
    have hb30_w13 : w13.cell? ⟨w4.heap.size, 0, none⟩ = some (.int .i64 h) := hk_w13.cell (by omega) (by omega) hb30_w12
    have hb31_w13 : w13.cell? ⟨w4.heap.size, 1, none⟩ = some (.slice Ax n cx) := hk_w13.cell (by omega) (by omega) hb31_w12
    have hq4_w13 : w5.heap.size < w13.heap.size := by omega
    have hb40_w13 : w13.cell? ⟨w5.heap.size, 0, none⟩ = some (.slice Ay m cy) := hk_w13.cell (by omega) (by omega) hb40_w12
    have hb41_w13 : w13.cell? ⟨w5.heap.size, 1, none⟩ = some (.int .i64 t) := hk_w13.cell (by omega) (by omega) hb41_w12
    have hq5_w13 : w6.heap.size < w13.heap.size := by omega
    have hb50_w13 : w13.cell? ⟨w6.heap.size, 0, none⟩ = some (.int .i64 hh) := hk_w13.cell (by omega) (by omega) hb50_w12
    have hb51_w13 : w13.cell? ⟨w6.heap.size, 1, none⟩ = some (.slice Ag ys.length cg) := hk_w13.cell (by omega) (by omega) hb51_w12
    have Rw_w13 := Rw_w12.held hk_w13 (by omega)
    have hE_w13 : Ext w w13 := hk_w13.ext hE_w12 (by omega)
    clear hk_w13
    have hnegM : ¬ M < 0 := by omega
    have hbdM : 0 ≤ M ∧ M ≤ 1200000000000 := by omega
    have HM := Lib.hid hM
    clear hM hsmM
    go_wp2_with fail
    (with_reducible refine (heldRoutine_any _ ys.length _ (fun i => (pt ys i).length) _ 1 _ ((Rg_w13.parts (by omega) (mkP_bd (by omega) (by omega) HYL.out)).ext (by with_reducible (repeat (first | exact Ext.refl _ | apply Ext.drewN | apply Ext.drew | apply Ext.alloc | (refine Ext.set ?_ (by first | (simp; done) | (simp; omega) | omega) _) | (refine Ext.trans ?_ (by assumption)))))) (by omega) (by omega) HYL.out).mono ?_)
    rintro e w14 ⟨he_w14, hx_w14⟩
    rw [HM.out] at he_w14
    subst he_w14
    have hz_w14 := hx_w14.size
    (try simp at hz_w14)
    have hp_w14 : Ext w13 w14 := Ext.trans (by with_reducible (repeat (first | exact Ext.refl _ | apply Ext.drewN | apply Ext.drew | apply Ext.alloc | (refine Ext.set ?_ (by first | (simp; done) | (simp; omega) | omega) _) | (refine Ext.trans ?_ (by assumption))))) hx_w14
    have hq0_w14 : w.heap.size < w14.heap.size := by omega
    have hb00_w14 : w14.cell? ⟨w.heap.size, 0, none⟩ = some (.int .i64 h) := hp_w14.cell (by omega) hb00_w13
    have hb01_w14 : w14.cell? ⟨w.heap.size, 1, none⟩ = some (.slice A n c) := hp_w14.cell (by omega) hb01_w13
    have hq1_w14 : w.heap.size + 1 < w14.heap.size := by omega
    have hb10_w14 : w14.cell? ⟨w.heap.size + 1, 0, none⟩ = some (.slice B m d) := hp_w14.cell (by omega) hb10_w13
    have hb11_w14 : w14.cell? ⟨w.heap.size + 1, 1, none⟩ = some (.int .i64 t) := hp_w14.cell (by omega) hb11_w13
    have hq2_w14 : g0 < w14.heap.size := by omega
    have hb20_w14 : w14.cell? ⟨g0, 0, none⟩ = some (.int .i64 hh) := hp_w14.cell (by omega) hb20_w13
    have hb21_w14 : w14.cell? ⟨g0, 1, none⟩ = some (.slice Aw ys.length cw) := hp_w14.cell (by omega) hb21_w13
    have hq3_w14 : w4.heap.size < w14.heap.size := by omega
    have hb30_w14 : w14.cell? ⟨w4.heap.size, 0, none⟩ = some (.int .i64 h) := hp_w14.cell (by omega) hb30_w13
    have hb31_w14 : w14.cell? ⟨w4.heap.size, 1, none⟩ = some (.slice Ax n cx) := hp_w14.cell (by omega) hb31_w13
    have hq4_w14 : w5.heap.size < w14.heap.size := by omega
    have hb40_w14 : w14.cell? ⟨w5.heap.size, 0, none⟩ = some (.slice Ay m cy) := hp_w14.cell (by omega) hb40_w13
    have hb41_w14 : w14.cell? ⟨w5.heap.size, 1, none⟩ = some (.int .i64 t) := hp_w14.cell (by omega) hb41_w13
    have hq5_w14 : w6.heap.size < w14.heap.size := by omega
    have hb50_w14 : w14.cell? ⟨w6.heap.size, 0, none⟩ = some (.int .i64 hh) := hp_w14.cell (by omega) hb50_w13
    have hb51_w14 : w14.cell? ⟨w6.heap.size, 1, none⟩ = some (.slice Ag ys.length cg) := hp_w14.cell (by omega) hb51_w13
    have Rw_w14 := Rw_w13.ext hp_w14
    have Rg_w14 := Rg_w13.ext hp_w14
    have hE_w14 : Ext w w14 := Ext.trans (by with_reducible (repeat (first | exact Ext.refl _ | apply Ext.drewN | apply Ext.drew | apply Ext.alloc | (refine Ext.set ?_ (by first | (simp; done) | (simp; omega) | omega) _) | (refine Ext.trans ?_ (by assumption))))) hx_w14
    have hu30 : w.heap.size ≠ w14.heap.size := by omega
    have hv30 : w14.heap.size ≠ w.heap.size := by omega
    have hu31 : w.heap.size + 1 ≠ w14.heap.size := by omega
    have hv31 : w14.heap.size ≠ w.heap.size + 1 := by omega
    have hu32 : g0 ≠ w14.heap.size := by omega
    have hv32 : w14.heap.size ≠ g0 := by omega
    have hu33 : w4.heap.size ≠ w14.heap.size := by omega
    have hv33 : w14.heap.size ≠ w4.heap.size := by omega
    have hu34 : w5.heap.size ≠ w14.heap.size := by omega
    have hv34 : w14.heap.size ≠ w5.heap.size := by omega
    have hu35 : w6.heap.size ≠ w14.heap.size := by omega
    have hv35 : w14.heap.size ≠ w6.heap.size := by omega
    go_upto_region 31 with fail
    go_cut [15, 16] (fun s6 s7 wx => RouBox w14 wx hh ys r s6 s7)
    case first =>
      go_region_held3 (fun wz => wz.cell? ⟨w.heap.size, 0, none⟩ = some (.int .i64 h) ∧ wz.cell? ⟨w.heap.size, 1, none⟩ = some (.slice A n c) ∧ wz.cell? ⟨w.heap.size + 1, 0, none⟩ = some (.slice B m d) ∧ wz.cell? ⟨w.heap.size + 1, 1, none⟩ = some (.int .i64 t)) (go_keep)
        (first | (go_at_call 9; (with_reducible refine (toRoutine_row A n c ps h _ (hI.ext (by with_reducible (repeat (first | exact Ext.refl _ | apply Ext.drewN | apply Ext.drew | apply Ext.alloc | (refine Ext.set ?_ (by first | (simp; done) | (simp; omega) | omega) _) | (refine Ext.trans ?_ (by assumption)))))) hn HLM.out).mono ?_); rintro e wa3 ⟨Aa3, ca3, rfl, Ra3, hx_wa3⟩; have hz_wa3 := hx_wa3.size; (try simp at hz_wa3); (try (have hq0_wa3 : w.heap.size < wa3.heap.size := by omega)); (try (have hn0_wa3 : w.heap.size ≠ wa3.heap.size := by omega)); (try (have hm0_wa3 : wa3.heap.size ≠ w.heap.size := by omega)); (try (have hc0_wa3 : ∀ o, wa3.cell? ⟨w.heap.size, o, none⟩ = _ := fun o => hx_wa3.cells.1 _ o (by first | (simp; done) | (simp; omega) | omega))); (try (have hf0_wa3 : ∀ o, wa3.frozen? ⟨w.heap.size, o, none⟩ = _ := fun o => hx_wa3.cells.2 _ o (by first | (simp; done) | (simp; omega) | omega))); (try (have hq1_wa3 : w.heap.size + 1 < wa3.heap.size := by omega)); (try (have hn1_wa3 : w.heap.size + 1 ≠ wa3.heap.size := by omega)); (try (have hm1_wa3 : wa3.heap.size ≠ w.heap.size + 1 := by omega)); (try (have hc1_wa3 : ∀ o, wa3.cell? ⟨w.heap.size + 1, o, none⟩ = _ := fun o => hx_wa3.cells.1 _ o (by first | (simp; done) | (simp; omega) | omega))); (try (have hf1_wa3 : ∀ o, wa3.frozen? ⟨w.heap.size + 1, o, none⟩ = _ := fun o => hx_wa3.cells.2 _ o (by first | (simp; done) | (simp; omega) | omega))); (try (have hq2_wa3 : w14.heap.size < wa3.heap.size := by omega)); (try (have hn2_wa3 : w14.heap.size ≠ wa3.heap.size := by omega)); (try (have hm2_wa3 : wa3.heap.size ≠ w14.heap.size := by omega)); (try (have hc2_wa3 : ∀ o, wa3.cell? ⟨w14.heap.size, o, none⟩ = _ := fun o => hx_wa3.cells.1 _ o (by first | (simp; done) | (simp; omega) | omega))); (try (have hf2_wa3 : ∀ o, wa3.frozen? ⟨w14.heap.size, o, none⟩ = _ := fun o => hx_wa3.cells.2 _ o (by first | (simp; done) | (simp; omega) | omega)))) | (go_at_call 20; (with_reducible refine (toPart_row B m d xs t _ (hJ.ext (by with_reducible (repeat (first | exact Ext.refl _ | apply Ext.drewN | apply Ext.drew | apply Ext.alloc | (refine Ext.set ?_ (by first | (simp; done) | (simp; omega) | omega) _) | (refine Ext.trans ?_ (by assumption)))))) hm).mono ?_); rintro e wb3 ⟨Ab3, cb3, rfl, Rb3, hx_wb3⟩; have hz_wb3 := hx_wb3.size; (try simp at hz_wb3); (try (have hq0_wb3 : w.heap.size < wb3.heap.size := by omega)); (try (have hn0_wb3 : w.heap.size ≠ wb3.heap.size := by omega)); (try (have hm0_wb3 : wb3.heap.size ≠ w.heap.size := by omega)); (try (have hc0_wb3 : ∀ o, wb3.cell? ⟨w.heap.size, o, none⟩ = _ := fun o => hx_wb3.cells.1 _ o (by first | (simp; done) | (simp; omega) | omega))); (try (have hf0_wb3 : ∀ o, wb3.frozen? ⟨w.heap.size, o, none⟩ = _ := fun o => hx_wb3.cells.2 _ o (by first | (simp; done) | (simp; omega) | omega))); (try (have hq1_wb3 : w.heap.size + 1 < wb3.heap.size := by omega)); (try (have hn1_wb3 : w.heap.size + 1 ≠ wb3.heap.size := by omega)); (try (have hm1_wb3 : wb3.heap.size ≠ w.heap.size + 1 := by omega)); (try (have hc1_wb3 : ∀ o, wb3.cell? ⟨w.heap.size + 1, o, none⟩ = _ := fun o => hx_wb3.cells.1 _ o (by first | (simp; done) | (simp; omega) | omega))); (try (have hf1_wb3 : ∀ o, wb3.frozen? ⟨w.heap.size + 1, o, none⟩ = _ := fun o => hx_wb3.cells.2 _ o (by first | (simp; done) | (simp; omega) | omega))); (try (have hq2_wb3 : w14.heap.size < wb3.heap.size := by omega)); (try (have hn2_wb3 : w14.heap.size ≠ wb3.heap.size := by omega)); (try (have hm2_wb3 : wb3.heap.size ≠ w14.heap.size := by omega)); (try (have hc2_wb3 : ∀ o, wb3.cell? ⟨w14.heap.size, o, none⟩ = _ := fun o => hx_wb3.cells.1 _ o (by first | (simp; done) | (simp; omega) | omega))); (try (have hf2_wb3 : ∀ o, wb3.frozen? ⟨w14.heap.size, o, none⟩ = _ := fun o => hx_wb3.cells.2 _ o (by first | (simp; done) | (simp; omega) | omega))); (try (have hq3_wb3 : wa3.heap.size < wb3.heap.size := by omega)); (try (have hn3_wb3 : wa3.heap.size ≠ wb3.heap.size := by omega)); (try (have hm3_wb3 : wb3.heap.size ≠ wa3.heap.size := by omega)); (try (have hc3_wb3 : ∀ o, wb3.cell? ⟨wa3.heap.size, o, none⟩ = _ := fun o => hx_wb3.cells.1 _ o (by first | (simp; done) | (simp; omega) | omega))); (try (have hf3_wb3 : ∀ o, wb3.frozen? ⟨wa3.heap.size, o, none⟩ = _ := fun o => hx_wb3.cells.2 _ o (by first | (simp; done) | (simp; omega) | omega)))) | (go_at_call 21; (with_reducible refine (implAppendPart_is _ _ _ ps h _ _ _ xs t _ ((Ra3.parts (by omega) HBP.out).ext (by with_reducible (repeat (first | exact Ext.refl _ | apply Ext.drewN | apply Ext.drew | apply Ext.alloc | (refine Ext.set ?_ (by first | (simp; done) | (simp; omega) | omega) _) | (refine Ext.trans ?_ (by assumption)))))) ((ints_one Rb3 (by omega) HBX.out).ext (by with_reducible (repeat (first | exact Ext.refl _ | apply Ext.drewN | apply Ext.drew | apply Ext.alloc | (refine Ext.set ?_ (by first | (simp; done) | (simp; omega) | omega) _) | (refine Ext.trans ?_ (by assumption)))))) ht HY.out).mono ?_); rintro e wc3 ⟨Ah, nh, ch, rfl, Rh, hx_wc3⟩; have hz_wc3 := hx_wc3.size; (try simp at hz_wc3); (try (have hq0_wc3 : w.heap.size < wc3.heap.size := by omega)); (try (have hn0_wc3 : w.heap.size ≠ wc3.heap.size := by omega)); (try (have hm0_wc3 : wc3.heap.size ≠ w.heap.size := by omega)); (try (have hc0_wc3 : ∀ o, wc3.cell? ⟨w.heap.size, o, none⟩ = _ := fun o => hx_wc3.cells.1 _ o (by first | (simp; done) | (simp; omega) | omega))); (try (have hf0_wc3 : ∀ o, wc3.frozen? ⟨w.heap.size, o, none⟩ = _ := fun o => hx_wc3.cells.2 _ o (by first | (simp; done) | (simp; omega) | omega))); (try (have hq1_wc3 : w.heap.size + 1 < wc3.heap.size := by omega)); (try (have hn1_wc3 : w.heap.size + 1 ≠ wc3.heap.size := by omega)); (try (have hm1_wc3 : wc3.heap.size ≠ w.heap.size + 1 := by omega)); (try (have hc1_wc3 : ∀ o, wc3.cell? ⟨w.heap.size + 1, o, none⟩ = _ := fun o => hx_wc3.cells.1 _ o (by first | (simp; done) | (simp; omega) | omega))); (try (have hf1_wc3 : ∀ o, wc3.frozen? ⟨w.heap.size + 1, o, none⟩ = _ := fun o => hx_wc3.cells.2 _ o (by first | (simp; done) | (simp; omega) | omega))); (try (have hq2_wc3 : w14.heap.size < wc3.heap.size := by omega)); (try (have hn2_wc3 : w14.heap.size ≠ wc3.heap.size := by omega)); (try (have hm2_wc3 : wc3.heap.size ≠ w14.heap.size := by omega)); (try (have hc2_wc3 : ∀ o, wc3.cell? ⟨w14.heap.size, o, none⟩ = _ := fun o => hx_wc3.cells.1 _ o (by first | (simp; done) | (simp; omega) | omega))); (try (have hf2_wc3 : ∀ o, wc3.frozen? ⟨w14.heap.size, o, none⟩ = _ := fun o => hx_wc3.cells.2 _ o (by first | (simp; done) | (simp; omega) | omega))); (try (have hq3_wc3 : wa3.heap.size < wc3.heap.size := by omega)); (try (have hn3_wc3 : wa3.heap.size ≠ wc3.heap.size := by omega)); (try (have hm3_wc3 : wc3.heap.size ≠ wa3.heap.size := by omega)); (try (have hc3_wc3 : ∀ o, wc3.cell? ⟨wa3.heap.size, o, none⟩ = _ := fun o => hx_wc3.cells.1 _ o (by first | (simp; done) | (simp; omega) | omega))); (try (have hf3_wc3 : ∀ o, wc3.frozen? ⟨wa3.heap.size, o, none⟩ = _ := fun o => hx_wc3.cells.2 _ o (by first | (simp; done) | (simp; omega) | omega))); (try (have hq4_wc3 : wb3.heap.size < wc3.heap.size := by omega)); (try (have hn4_wc3 : wb3.heap.size ≠ wc3.heap.size := by omega)); (try (have hm4_wc3 : wc3.heap.size ≠ wb3.heap.size := by omega)); (try (have hc4_wc3 : ∀ o, wc3.cell? ⟨wb3.heap.size, o, none⟩ = _ := fun o => hx_wc3.cells.1 _ o (by first | (simp; done) | (simp; omega) | omega))); (try (have hf4_wc3 : ∀ o, wc3.frozen? ⟨wb3.heap.size, o, none⟩ = _ := fun o => hx_wc3.cells.2 _ o (by first | (simp; done) | (simp; omega) | omega)))))
      all_goals (go_wp2_with fail; go_meet)
      all_goals (obtain rfl := Rh.len; refine ⟨rfl, _, Ah, ch, rfl, ?_, ?_, ?_, ?_, ?_, (by with_reducible (repeat (first | exact Ext.refl _ | apply Ext.drewN | apply Ext.drew | apply Ext.alloc | (refine Ext.set ?_ (by first | (simp; done) | (simp; omega) | omega) _) | (refine Ext.trans ?_ (by assumption)))))⟩)
      all_goals first | (simp [World.setCell]; done) | (simp [World.setCell]; omega) | omega | (go_simp; done) | (exact row_box Rh (by first | (simp; done) | (simp; omega) | omega) (by with_reducible (repeat (first | exact Ext.refl _ | apply Ext.drewN | apply Ext.drew | apply Ext.alloc | (refine Ext.set ?_ (by first | (simp; done) | (simp; omega) | omega) _) | (refine Ext.trans ?_ (by assumption))))) (by first | (simp; done) | (simp; omega) | omega) (by first | (left; simp; done) | (left; simp; omega) | (left; omega) | (right; simp; done) | (right; simp; omega))) | (exact (Rh.ext (by with_reducible (repeat (first | exact Ext.refl _ | apply Ext.drewN | apply Ext.drew | apply Ext.alloc | (refine Ext.set ?_ (by first | (simp; done) | (simp; omega) | omega) _) | (refine Ext.trans ?_ (by assumption)))))).wide (by first | (simp; done) | (simp; omega) | omega) (by first | (simp; done) | (simp; omega) | omega)) | trace_state
    case rest =>
      obtain ⟨w15, hw_w15⟩ : ∃ w15, w15 = wc := ⟨_, rfl⟩
      subst hw_w15
      obtain ⟨rfl, g3, Ah, ch, rfl, hg3, hg3s, hb30, hb31, Rh, hx_w15⟩ := hcut
      have hz_w15 := hx_w15.size
      have hq0_w15 : w.heap.size < w15.heap.size := by omega
      have hb00_w15 : w15.cell? ⟨w.heap.size, 0, none⟩ = some (.int .i64 h) := hx_w15.cell (by omega) hb00_w14
      have hb01_w15 : w15.cell? ⟨w.heap.size, 1, none⟩ = some (.slice A n c) := hx_w15.cell (by omega) hb01_w14
      have hq1_w15 : w.heap.size + 1 < w15.heap.size := by omega
      have hb10_w15 : w15.cell? ⟨w.heap.size + 1, 0, none⟩ = some (.slice B m d) := hx_w15.cell (by omega) hb10_w14
      have hb11_w15 : w15.cell? ⟨w.heap.size + 1, 1, none⟩ = some (.int .i64 t) := hx_w15.cell (by omega) hb11_w14
      have hq2_w15 : g0 < w15.heap.size := by omega
      have hb20_w15 : w15.cell? ⟨g0, 0, none⟩ = some (.int .i64 hh) := hx_w15.cell (by omega) hb20_w14
      have hb21_w15 : w15.cell? ⟨g0, 1, none⟩ = some (.slice Aw ys.length cw) := hx_w15.cell (by omega) hb21_w14
      have hq3_w15 : w4.heap.size < w15.heap.size := by omega
      have hb30_w15 : w15.cell? ⟨w4.heap.size, 0, none⟩ = some (.int .i64 h) := hx_w15.cell (by omega) hb30_w14
      have hb31_w15 : w15.cell? ⟨w4.heap.size, 1, none⟩ = some (.slice Ax n cx) := hx_w15.cell (by omega) hb31_w14
      have hq4_w15 : w5.heap.size < w15.heap.size := by omega
      have hb40_w15 : w15.cell? ⟨w5.heap.size, 0, none⟩ = some (.slice Ay m cy) := hx_w15.cell (by omega) hb40_w14
      have hb41_w15 : w15.cell? ⟨w5.heap.size, 1, none⟩ = some (.int .i64 t) := hx_w15.cell (by omega) hb41_w14
      have hq5_w15 : w6.heap.size < w15.heap.size := by omega
      have hb50_w15 : w15.cell? ⟨w6.heap.size, 0, none⟩ = some (.int .i64 hh) := hx_w15.cell (by omega) hb50_w14
      have hb51_w15 : w15.cell? ⟨w6.heap.size, 1, none⟩ = some (.slice Ag ys.length cg) := hx_w15.cell (by omega) hb51_w14
      have Rw_w15 := Rw_w14.ext hx_w15
      have Rg_w15 := Rg_w14.ext hx_w15
      have hE_w15 : Ext w w15 := hE_w14.trans hx_w15
      have hq6_w15 : g3 < w15.heap.size := hg3s
      have hb60_w15 := hb30
      have hb61_w15 := hb31
      clear hb30 hb31 hx_w15
      (try (have hgn30 : g3 ≠ w.heap.size := by omega)); (try (have hgm30 : w.heap.size ≠ g3 := by omega))
      (try (have hgn31 : g3 ≠ w.heap.size + 1 := by omega)); (try (have hgm31 : w.heap.size + 1 ≠ g3 := by omega))
      (try (have hgn32 : g3 ≠ g0 := by omega)); (try (have hgm32 : g0 ≠ g3 := by omega))
      (try (have hgn33 : g3 ≠ w4.heap.size := by omega)); (try (have hgm33 : w4.heap.size ≠ g3 := by omega))
      (try (have hgn34 : g3 ≠ w5.heap.size := by omega)); (try (have hgm34 : w5.heap.size ≠ g3 := by omega))
      (try (have hgn35 : g3 ≠ w6.heap.size := by omega)); (try (have hgm35 : w6.heap.size ≠ g3 := by omega))
      have Rh_w15 : PRow w15 (w14.heap.size) w15.heap.size Ah ys.length ch ys := by first | (simpa using Rh) | exact Rh
      clear Rh
      have hlh : w14.heap.size ≤ w15.heap.size := by omega
      go_wp2_with fail
      (with_reducible refine (eqRoutine_same _ _ _ _ _ ys hh _ ((Rh_w15.parts (by omega) HYB.out.2).ext (by with_reducible (repeat (first | exact Ext.refl _ | apply Ext.drewN | apply Ext.drew | apply Ext.alloc | (refine Ext.set ?_ (by first | (simp; done) | (simp; omega) | omega) _) | (refine Ext.trans ?_ (by assumption)))))) ((Rw_w15.parts (by omega) HYB.out.2).ext (by with_reducible (repeat (first | exact Ext.refl _ | apply Ext.drewN | apply Ext.drew | apply Ext.alloc | (refine Ext.set ?_ (by first | (simp; done) | (simp; omega) | omega) _) | (refine Ext.trans ?_ (by assumption))))))).mono ?_)
      rintro e w16 ⟨rfl, hx_w16⟩
      have hz_w16 := hx_w16.size
      (try simp at hz_w16)
      have hp_w16 : Ext w15 w16 := Ext.trans (by with_reducible (repeat (first | exact Ext.refl _ | apply Ext.drewN | apply Ext.drew | apply Ext.alloc | (refine Ext.set ?_ (by first | (simp; done) | (simp; omega) | omega) _) | (refine Ext.trans ?_ (by assumption))))) hx_w16
      have hq0_w16 : w.heap.size < w16.heap.size := by omega
      have hb00_w16 : w16.cell? ⟨w.heap.size, 0, none⟩ = some (.int .i64 h) := hp_w16.cell (by omega) hb00_w15
      have hb01_w16 : w16.cell? ⟨w.heap.size, 1, none⟩ = some (.slice A n c) := hp_w16.cell (by omega) hb01_w15
      have hq1_w16 : w.heap.size + 1 < w16.heap.size := by omega
      have hb10_w16 : w16.cell? ⟨w.heap.size + 1, 0, none⟩ = some (.slice B m d) := hp_w16.cell (by omega) hb10_w15
      have hb11_w16 : w16.cell? ⟨w.heap.size + 1, 1, none⟩ = some (.int .i64 t) := hp_w16.cell (by omega) hb11_w15
      have hq2_w16 : g0 < w16.heap.size := by omega
      have hb20_w16 : w16.cell? ⟨g0, 0, none⟩ = some (.int .i64 hh) := hp_w16.cell (by omega) hb20_w15
      have hb21_w16 : w16.cell? ⟨g0, 1, none⟩ = some (.slice Aw ys.length cw) := hp_w16.cell (by omega) hb21_w15
      have hq3_w16 : w4.heap.size < w16.heap.size := by omega
      have hb30_w16 : w16.cell? ⟨w4.heap.size, 0, none⟩ = some (.int .i64 h) := hp_w16.cell (by omega) hb30_w15
      have hb31_w16 : w16.cell? ⟨w4.heap.size, 1, none⟩ = some (.slice Ax n cx) := hp_w16.cell (by omega) hb31_w15
      have hq4_w16 : w5.heap.size < w16.heap.size := by omega
      have hb40_w16 : w16.cell? ⟨w5.heap.size, 0, none⟩ = some (.slice Ay m cy) := hp_w16.cell (by omega) hb40_w15
      have hb41_w16 : w16.cell? ⟨w5.heap.size, 1, none⟩ = some (.int .i64 t) := hp_w16.cell (by omega) hb41_w15
      have hq5_w16 : w6.heap.size < w16.heap.size := by omega
      have hb50_w16 : w16.cell? ⟨w6.heap.size, 0, none⟩ = some (.int .i64 hh) := hp_w16.cell (by omega) hb50_w15
      have hb51_w16 : w16.cell? ⟨w6.heap.size, 1, none⟩ = some (.slice Ag ys.length cg) := hp_w16.cell (by omega) hb51_w15
      have hq6_w16 : g3 < w16.heap.size := by omega
      have hb60_w16 : w16.cell? ⟨g3, 0, none⟩ = some (.int .i64 hh) := hp_w16.cell (by omega) hb60_w15
      have hb61_w16 : w16.cell? ⟨g3, 1, none⟩ = some (.slice Ah ys.length ch) := hp_w16.cell (by omega) hb61_w15
      have Rw_w16 := Rw_w15.ext hp_w16
      have Rg_w16 := Rg_w15.ext hp_w16
      have Rh_w16 := Rh_w15.ext hp_w16
      have hE_w16 : Ext w w16 := Ext.trans (by with_reducible (repeat (first | exact Ext.refl _ | apply Ext.drewN | apply Ext.drew | apply Ext.alloc | (refine Ext.set ?_ (by first | (simp; done) | (simp; omega) | omega) _) | (refine Ext.trans ?_ (by assumption))))) hx_w16
      go_wp2_with fail
      (with_reducible refine (heldRoutine_any _ ys.length _ (fun i => (pt ys i).length) _ 1 _ ((Rg_w16.parts (by omega) (mkP_bd (by omega) (by omega) HYL.out)).ext (by with_reducible (repeat (first | exact Ext.refl _ | apply Ext.drewN | apply Ext.drew | apply Ext.alloc | (refine Ext.set ?_ (by first | (simp; done) | (simp; omega) | omega) _) | (refine Ext.trans ?_ (by assumption)))))) (by omega) (by omega) HYL.out).mono ?_)
      rintro e w17 ⟨he_w17, hx_w17⟩
      rw [HM.out] at he_w17
      subst he_w17
      have hz_w17 := hx_w17.size
      (try simp at hz_w17)
      have hp_w17 : Ext w16 w17 := Ext.trans (by with_reducible (repeat (first | exact Ext.refl _ | apply Ext.drewN | apply Ext.drew | apply Ext.alloc | (refine Ext.set ?_ (by first | (simp; done) | (simp; omega) | omega) _) | (refine Ext.trans ?_ (by assumption))))) hx_w17
      have hq0_w17 : w.heap.size < w17.heap.size := by omega
      have hb00_w17 : w17.cell? ⟨w.heap.size, 0, none⟩ = some (.int .i64 h) := hp_w17.cell (by omega) hb00_w16
      have hb01_w17 : w17.cell? ⟨w.heap.size, 1, none⟩ = some (.slice A n c) := hp_w17.cell (by omega) hb01_w16
      have hq1_w17 : w.heap.size + 1 < w17.heap.size := by omega
      have hb10_w17 : w17.cell? ⟨w.heap.size + 1, 0, none⟩ = some (.slice B m d) := hp_w17.cell (by omega) hb10_w16
      have hb11_w17 : w17.cell? ⟨w.heap.size + 1, 1, none⟩ = some (.int .i64 t) := hp_w17.cell (by omega) hb11_w16
      have hq2_w17 : g0 < w17.heap.size := by omega
      have hb20_w17 : w17.cell? ⟨g0, 0, none⟩ = some (.int .i64 hh) := hp_w17.cell (by omega) hb20_w16
      have hb21_w17 : w17.cell? ⟨g0, 1, none⟩ = some (.slice Aw ys.length cw) := hp_w17.cell (by omega) hb21_w16
      have hq3_w17 : w4.heap.size < w17.heap.size := by omega
      have hb30_w17 : w17.cell? ⟨w4.heap.size, 0, none⟩ = some (.int .i64 h) := hp_w17.cell (by omega) hb30_w16
      have hb31_w17 : w17.cell? ⟨w4.heap.size, 1, none⟩ = some (.slice Ax n cx) := hp_w17.cell (by omega) hb31_w16
      have hq4_w17 : w5.heap.size < w17.heap.size := by omega
      have hb40_w17 : w17.cell? ⟨w5.heap.size, 0, none⟩ = some (.slice Ay m cy) := hp_w17.cell (by omega) hb40_w16
      have hb41_w17 : w17.cell? ⟨w5.heap.size, 1, none⟩ = some (.int .i64 t) := hp_w17.cell (by omega) hb41_w16
      have hq5_w17 : w6.heap.size < w17.heap.size := by omega
      have hb50_w17 : w17.cell? ⟨w6.heap.size, 0, none⟩ = some (.int .i64 hh) := hp_w17.cell (by omega) hb50_w16
      have hb51_w17 : w17.cell? ⟨w6.heap.size, 1, none⟩ = some (.slice Ag ys.length cg) := hp_w17.cell (by omega) hb51_w16
      have hq6_w17 : g3 < w17.heap.size := by omega
      have hb60_w17 : w17.cell? ⟨g3, 0, none⟩ = some (.int .i64 hh) := hp_w17.cell (by omega) hb60_w16
      have hb61_w17 : w17.cell? ⟨g3, 1, none⟩ = some (.slice Ah ys.length ch) := hp_w17.cell (by omega) hb61_w16
      have Rw_w17 := Rw_w16.ext hp_w17
      have Rg_w17 := Rg_w16.ext hp_w17
      have Rh_w17 := Rh_w16.ext hp_w17
      have hE_w17 : Ext w w17 := Ext.trans (by with_reducible (repeat (first | exact Ext.refl _ | apply Ext.drewN | apply Ext.drew | apply Ext.alloc | (refine Ext.set ?_ (by first | (simp; done) | (simp; omega) | omega) _) | (refine Ext.trans ?_ (by assumption))))) hx_w17
      go_wp2
      go_ret
      exact ⟨rfl, Ext.below hE_w17⟩
end Go.Proofs.Ytignmgeiijccoaa.fnExactAppendPart
