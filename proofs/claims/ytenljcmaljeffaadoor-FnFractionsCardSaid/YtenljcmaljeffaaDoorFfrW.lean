/- The walk of laws.FnFractions, under the library's table of powers. -/
import Derived.Test.YtenljcmaljeffaaDoorTxt
import Derived.Test.YtenljcmaljeffaaDoorFfr
import Derived.Test.YtenljcmaljeffaaDoorA2a
import Derived.Laws.Closers25b
namespace Go.Proofs.YtenljcmaljeffaaDoor.fnFractions
set_option linter.unusedVariables false
set_option linter.unusedSimpArgs false
open Go.RowKit
theorem neg_lit : -(-(1 : Int)) = 1 := rfl
set_option maxHeartbeats 4000000 in
set_option maxRecDepth 100000 in
theorem walk (A : Option Addr) (n c0 : Nat) (xs : List Int) (w : World) (hB : Byts w A n xs) (hT : Tab w) :
    Calls Tryd.prog 5 #[.slice A n c0] w fun e w' => e = .returned (.bool true) ∧ Below w.heap.size w w' := by
  have hsn := hB.small
  cases hl : decide (3000 < n)
  rotate_left
  · have HL := Lib.hid hl
    clear hl
    go_enter Tryd.func5, Tryd.ntmps5
    go_wp2_with fail
    (with_reducible refine (a2Long_any _ _ _ _ _ _ _ hsn (by omega)).mono ?_)
    rw [HL.out]
    rintro e w' ⟨rfl, rfl⟩
    go_wp2
    go_ret
    exact ⟨rfl, Ext.below (Ext.refl _)⟩
  have HL := Lib.hid hl
  clear hl
  go_enter Tryd.func5, Tryd.ntmps5
  go_wp2_with fail
  (with_reducible refine (a2Long_any _ _ _ _ _ _ _ hsn (by omega)).mono ?_)
  rw [HL.out]
  rintro e w' ⟨rfl, rfl⟩
  go_wp2_with fail
  (with_reducible refine (a2At_is _ _ _ xs 0 _ _ _ hB (by simp) (by omega) (by omega) (by omega)).mono ?_)
  rintro e w' ⟨x0, rfl, hx0a, hx0b, hx0c, rfl⟩
  obtain ⟨a0, ha0⟩ : ∃ a, x0 - 128 = a := ⟨_, rfl⟩
  have hb0 : -128 ≤ a0 ∧ a0 ≤ 127 := by omega
  go_wp2_with fail
  (with_reducible refine (a2At_is _ _ _ xs 1 _ _ _ hB (by simp) (by omega) (by omega) (by omega)).mono ?_)
  rintro e w' ⟨x1, rfl, hx1a, hx1b, hx1c, rfl⟩
  obtain ⟨a1, ha1⟩ : ∃ a, 1 + x1 = a := ⟨_, rfl⟩
  have hb1 : 1 ≤ a1 ∧ a1 ≤ 250 := by omega
  clear hx1c
  go_wp2_with fail
  (with_reducible refine (a2At_is _ _ _ xs 2 _ _ _ hB (by simp) (by omega) (by omega) (by omega)).mono ?_)
  rintro e w' ⟨x2, rfl, hx2a, hx2b, hx2c, rfl⟩
  obtain ⟨a2, ha2⟩ : ∃ a, x2 - 128 = a := ⟨_, rfl⟩
  have hb2 : -128 ≤ a2 ∧ a2 ≤ 127 := by omega
  go_wp2_with fail
  (with_reducible refine (a2At_is _ _ _ xs 3 _ _ _ hB (by simp) (by omega) (by omega) (by omega)).mono ?_)
  rintro e w' ⟨x3, rfl, hx3a, hx3b, hx3c, rfl⟩
  obtain ⟨a3, ha3⟩ : ∃ a, 1 + x3 = a := ⟨_, rfl⟩
  have hb3 : 1 ≤ a3 ∧ a3 ≤ 250 := by omega
  clear hx3c
  obtain ⟨nx, dx, ny, dy, P, R, e1, e2, e3, e4, hd1, hd2, hP1, hP2, hR1, hR2, hna, hsev, hsg⟩ := frac_all a0 a1 a2 a3 (by omega) (by omega)
  have hnx : -128 ≤ nx ∧ nx ≤ 128 := by omega
  have hny : -128 ≤ ny ∧ ny ≤ 128 := by omega
  have mf1 : mfn a0 a1 = nx ∧ mfd a0 a1 = dx ∧ mfc a0 a1 = 0 := by
    have h1 : mfok a0 a1 = true := by unfold mfok; rw [btw_iff.2 (by omega), btw_iff.2 (by omega)]; simp; omega
    unfold mfn mfd mfc
    rw [h1, if_pos rfl, if_pos rfl, if_pos rfl, (low_pos a0 a1 (by omega)).1, (low_pos a0 a1 (by omega)).2]
    exact ⟨e1, e2, rfl⟩
  have mf2 : mfn (-a2) (-a3) = ny ∧ mfd (-a2) (-a3) = dy ∧ mfc (-a2) (-a3) = 0 := by
    have h1 : mfok (-a2) (-a3) = true := by unfold mfok; rw [btw_iff.2 (by omega), btw_iff.2 (by omega)]; simp; omega
    unfold mfn mfd mfc
    rw [h1, if_pos rfl, if_pos rfl, if_pos rfl, (low_neg a2 a3 (by omega)).1, (low_neg a2 a3 (by omega)).2]
    exact ⟨e3, e4, rfl⟩
  have mf3 : mfn (nx * 7) (dx * 7) = nx ∧ mfd (nx * 7) (dx * 7) = dx ∧ mfc (nx * 7) (dx * 7) = 0 := by
    have h1 : mfok (nx * 7) (dx * 7) = true := by unfold mfok; rw [btw_iff.2 (by omega), btw_iff.2 (by omega)]; simp; omega
    unfold mfn mfd mfc
    rw [h1, if_pos rfl, if_pos rfl, if_pos rfl, hsev.1, hsev.2]
    exact ⟨rfl, rfl, rfl⟩
  have c1 := fun W => implMakeFraction_any a0 a1 W
  have c2 := fun W => implMakeFraction_any (-a2) (-a3) W
  have c3 := fun W => implMakeFraction_any (nx * 7) (dx * 7) W
  simp only [mf1.1, mf1.2.1, mf1.2.2] at c1
  simp only [mf2.1, mf2.2.1, mf2.2.2] at c2
  simp only [mf3.1, mf3.2.1, mf3.2.2] at c3
  obtain ⟨U, hU⟩ : ∃ U, a0 * a3 = U := ⟨_, rfl⟩
  obtain ⟨V, hV⟩ : ∃ V, a2 * a1 = V := ⟨_, rfl⟩
  rw [hU, hV] at hsg
  have hbP := mul_bd (a := nx) (b := a1) (A := 128) (B := 250) (by omega) (by omega)
  have hbR := mul_bd (a := ny) (b := a3) (A := 128) (B := 250) (by omega) (by omega)
  have hbU := mul_bd (a := a0) (b := a3) (A := 128) (B := 250) (by omega) (by omega)
  have hbV := mul_bd (a := a2) (b := a1) (A := 128) (B := 250) (by omega) (by omega)
  rw [hP1] at hbP
  rw [hR1] at hbR
  rw [hU] at hbU
  rw [hV] at hbV
  have hv1 : vfr nx dx = true := vfr_iff.2 (by omega)
  have hv2 : vfr ny dy = true := vfr_iff.2 (by omega)
  have c4 := fun W => implCompare_any nx dx ny dy (sgn U V) W (Or.inr ⟨⟨hv1, hv2⟩, hsg.symm⟩)
  have c5 := fun W => implCompare_any ny dy nx dx (-sgn U V) W (Or.inr ⟨⟨hv2, hv1⟩, by rw [← hsg, ← sgn_swap]⟩)
  have hft := frt nx dx
  have hfs : 0 < (frt nx dx).size := by
    unfold frt strk
    rw [if_neg (by omega)]
    have h1 := dec_size (n := nx) (by omega)
    split
    · exact h1.1
    · rw [ByteArray.size_append, ByteArray.size_append]; omega
  have c6 := fun W hW => implFractionText_any nx dx W (by omega) (by omega) hW
  obtain ⟨s, hs⟩ : ∃ s, frt nx dx = s := ⟨_, rfl⟩
  simp only [hs] at c6
  rw [hs] at hfs
  have hse : (!s.toList.isEmpty) = true := by
    have h1 : s.toList ≠ [] := fun h => by
      have h2 := (toList_nil_iff_emptyBytes s).1 h
      subst h2
      exact absurd hfs (by decide)
    simpa using h1
  have HSE := Lib.hid hse
  clear hse
  have C1 := Lib.hid c1
  have C2 := Lib.hid c2
  have C3 := Lib.hid c3
  have C4 := Lib.hid c4
  have C5 := Lib.hid c5
  have C6 := Lib.hid c6
  clear c1 c2 c3 c4 c5 c6 mf1 mf2 mf3 hft hs e1 e2 e3 e4 hsev hna hfs hv1 hv2 hsg
  go_wp2_with fail
  (with_reducible refine (C1.out _).mono ?_)
  rintro e w1 ⟨rfl, hx_w1⟩
  have hz_w1 := hx_w1.size
  (try simp at hz_w1)
  have hE_w1 : Ext w w1 := Ext.trans (by with_reducible (repeat (first | exact Ext.refl _ | apply Ext.drewN | apply Ext.drew | apply Ext.alloc | (refine Ext.set ?_ (by first | (simp; done) | (simp; omega) | omega) _) | (refine Ext.trans ?_ (by assumption))))) hx_w1
  go_wp2_with fail
  (with_reducible refine (C2.out _).mono ?_)
  rintro e w2 ⟨rfl, hx_w2⟩
  have hz_w2 := hx_w2.size
  (try simp at hz_w2)
  have hq0_w2 : w1.heap.size < w2.heap.size := by omega
  have hc0_w2 : ∀ o, w2.cell? ⟨w1.heap.size, o, none⟩ = _ := fun o => hx_w2.cells.1 _ o (by first | (simp; done) | (simp; omega) | omega)
  have hE_w2 : Ext w w2 := Ext.trans (by with_reducible (repeat (first | exact Ext.refl _ | apply Ext.drewN | apply Ext.drew | apply Ext.alloc | (refine Ext.set ?_ (by first | (simp; done) | (simp; omega) | omega) _) | (refine Ext.trans ?_ (by assumption))))) hx_w2
  go_wp2_with fail
  (with_reducible refine (C3.out _).mono ?_)
  rintro e w3 ⟨rfl, hx_w3⟩
  have hz_w3 := hx_w3.size
  (try simp at hz_w3)
  have hq0_w3 : w1.heap.size < w3.heap.size := by omega
  have hc0_w3 : ∀ o, w3.cell? ⟨w1.heap.size, o, none⟩ = _ := fun o => hx_w3.cells.1 _ o (by first | (simp; done) | (simp; omega) | omega)
  have hq1_w3 : w2.heap.size < w3.heap.size := by omega
  have hc1_w3 : ∀ o, w3.cell? ⟨w2.heap.size, o, none⟩ = _ := fun o => hx_w3.cells.1 _ o (by first | (simp; done) | (simp; omega) | omega)
  have hE_w3 : Ext w w3 := Ext.trans (by with_reducible (repeat (first | exact Ext.refl _ | apply Ext.drewN | apply Ext.drew | apply Ext.alloc | (refine Ext.set ?_ (by first | (simp; done) | (simp; omega) | omega) _) | (refine Ext.trans ?_ (by assumption))))) hx_w3
  rcases Int.lt_trichotomy U V with hUV | hUV | hUV
  · have hsv : sgn U V = (-1) := by unfold sgn; rw [if_pos hUV]
    have C4 := C4.out
    have C5 := C5.out
    rw [hsv] at C4 C5
    have C4 := Lib.hid C4
    have C5 := Lib.hid C5
    clear hsv
    have hVU : ¬ V < U := by omega
    go_wp2_with fail
    (with_reducible refine (C4.out _).mono ?_)
    rintro e w4 ⟨rfl, hx_w4⟩
    have hz_w4 := hx_w4.size
    (try simp at hz_w4)
    have hq0_w4 : w1.heap.size < w4.heap.size := by omega
    have hc0_w4 : ∀ o, w4.cell? ⟨w1.heap.size, o, none⟩ = _ := fun o => hx_w4.cells.1 _ o (by first | (simp; done) | (simp; omega) | omega)
    have hq1_w4 : w2.heap.size < w4.heap.size := by omega
    have hc1_w4 : ∀ o, w4.cell? ⟨w2.heap.size, o, none⟩ = _ := fun o => hx_w4.cells.1 _ o (by first | (simp; done) | (simp; omega) | omega)
    have hq2_w4 : w3.heap.size < w4.heap.size := by omega
    have hc2_w4 : ∀ o, w4.cell? ⟨w3.heap.size, o, none⟩ = _ := fun o => hx_w4.cells.1 _ o (by first | (simp; done) | (simp; omega) | omega)
    have hE_w4 : Ext w w4 := Ext.trans (by with_reducible (repeat (first | exact Ext.refl _ | apply Ext.drewN | apply Ext.drew | apply Ext.alloc | (refine Ext.set ?_ (by first | (simp; done) | (simp; omega) | omega) _) | (refine Ext.trans ?_ (by assumption))))) hx_w4
    go_wp2_with fail
    (with_reducible refine (C5.out _).mono ?_)
    rintro e w5 ⟨rfl, hx_w5⟩
    have hz_w5 := hx_w5.size
    (try simp at hz_w5)
    have hq0_w5 : w1.heap.size < w5.heap.size := by omega
    have hc0_w5 : ∀ o, w5.cell? ⟨w1.heap.size, o, none⟩ = _ := fun o => hx_w5.cells.1 _ o (by first | (simp; done) | (simp; omega) | omega)
    have hq1_w5 : w2.heap.size < w5.heap.size := by omega
    have hc1_w5 : ∀ o, w5.cell? ⟨w2.heap.size, o, none⟩ = _ := fun o => hx_w5.cells.1 _ o (by first | (simp; done) | (simp; omega) | omega)
    have hq2_w5 : w3.heap.size < w5.heap.size := by omega
    have hc2_w5 : ∀ o, w5.cell? ⟨w3.heap.size, o, none⟩ = _ := fun o => hx_w5.cells.1 _ o (by first | (simp; done) | (simp; omega) | omega)
    have hE_w5 : Ext w w5 := Ext.trans (by with_reducible (repeat (first | exact Ext.refl _ | apply Ext.drewN | apply Ext.drew | apply Ext.alloc | (refine Ext.set ?_ (by first | (simp; done) | (simp; omega) | omega) _) | (refine Ext.trans ?_ (by assumption))))) hx_w5
    go_wp2_with fail
    (with_reducible refine (C6.out _ (hT.ext (by with_reducible (repeat (first | exact Ext.refl _ | apply Ext.drewN | apply Ext.drew | apply Ext.alloc | (refine Ext.set ?_ (by first | (simp; done) | (simp; omega) | omega) _) | (refine Ext.trans ?_ (by assumption))))))).mono ?_)
    rintro e w6 ⟨rfl, hx_w6⟩
    have hz_w6 := hx_w6.size
    (try simp at hz_w6)
    have hq0_w6 : w1.heap.size < w6.heap.size := by omega
    have hc0_w6 : ∀ o, w6.cell? ⟨w1.heap.size, o, none⟩ = _ := fun o => hx_w6.cells.1 _ o (by first | (simp; done) | (simp; omega) | omega)
    have hq1_w6 : w2.heap.size < w6.heap.size := by omega
    have hc1_w6 : ∀ o, w6.cell? ⟨w2.heap.size, o, none⟩ = _ := fun o => hx_w6.cells.1 _ o (by first | (simp; done) | (simp; omega) | omega)
    have hq2_w6 : w3.heap.size < w6.heap.size := by omega
    have hc2_w6 : ∀ o, w6.cell? ⟨w3.heap.size, o, none⟩ = _ := fun o => hx_w6.cells.1 _ o (by first | (simp; done) | (simp; omega) | omega)
    have hE_w6 : Ext w w6 := Ext.trans (by with_reducible (repeat (first | exact Ext.refl _ | apply Ext.drewN | apply Ext.drew | apply Ext.alloc | (refine Ext.set ?_ (by first | (simp; done) | (simp; omega) | omega) _) | (refine Ext.trans ?_ (by assumption))))) hx_w6
    go_wp2
    go_ret
    exact ⟨congrArg (fun b => Ending.returned (Value.bool b)) HSE.out, Ext.below (by with_reducible (repeat (first | exact Ext.refl _ | apply Ext.drewN | apply Ext.drew | apply Ext.alloc | (refine Ext.set ?_ (by first | (simp; done) | (simp; omega) | omega) _) | (refine Ext.trans ?_ (by assumption)))))⟩
  · have hsv : sgn U V = 0 := by unfold sgn; rw [if_neg (by omega), if_neg (by omega)]
    have C4 := C4.out
    have C5 := C5.out
    rw [hsv] at C4 C5
    have C4 := Lib.hid C4
    have C5 := Lib.hid C5
    clear hsv
    have hVU : ¬ U < V := by omega
    have hVU2 : ¬ V < U := by omega
    go_wp2_with fail
    (with_reducible refine (C4.out _).mono ?_)
    rintro e w4 ⟨rfl, hx_w4⟩
    have hz_w4 := hx_w4.size
    (try simp at hz_w4)
    have hq0_w4 : w1.heap.size < w4.heap.size := by omega
    have hc0_w4 : ∀ o, w4.cell? ⟨w1.heap.size, o, none⟩ = _ := fun o => hx_w4.cells.1 _ o (by first | (simp; done) | (simp; omega) | omega)
    have hq1_w4 : w2.heap.size < w4.heap.size := by omega
    have hc1_w4 : ∀ o, w4.cell? ⟨w2.heap.size, o, none⟩ = _ := fun o => hx_w4.cells.1 _ o (by first | (simp; done) | (simp; omega) | omega)
    have hq2_w4 : w3.heap.size < w4.heap.size := by omega
    have hc2_w4 : ∀ o, w4.cell? ⟨w3.heap.size, o, none⟩ = _ := fun o => hx_w4.cells.1 _ o (by first | (simp; done) | (simp; omega) | omega)
    have hE_w4 : Ext w w4 := Ext.trans (by with_reducible (repeat (first | exact Ext.refl _ | apply Ext.drewN | apply Ext.drew | apply Ext.alloc | (refine Ext.set ?_ (by first | (simp; done) | (simp; omega) | omega) _) | (refine Ext.trans ?_ (by assumption))))) hx_w4
    go_wp2_with fail
    (with_reducible refine (C5.out _).mono ?_)
    rintro e w5 ⟨rfl, hx_w5⟩
    have hz_w5 := hx_w5.size
    (try simp at hz_w5)
    have hq0_w5 : w1.heap.size < w5.heap.size := by omega
    have hc0_w5 : ∀ o, w5.cell? ⟨w1.heap.size, o, none⟩ = _ := fun o => hx_w5.cells.1 _ o (by first | (simp; done) | (simp; omega) | omega)
    have hq1_w5 : w2.heap.size < w5.heap.size := by omega
    have hc1_w5 : ∀ o, w5.cell? ⟨w2.heap.size, o, none⟩ = _ := fun o => hx_w5.cells.1 _ o (by first | (simp; done) | (simp; omega) | omega)
    have hq2_w5 : w3.heap.size < w5.heap.size := by omega
    have hc2_w5 : ∀ o, w5.cell? ⟨w3.heap.size, o, none⟩ = _ := fun o => hx_w5.cells.1 _ o (by first | (simp; done) | (simp; omega) | omega)
    have hE_w5 : Ext w w5 := Ext.trans (by with_reducible (repeat (first | exact Ext.refl _ | apply Ext.drewN | apply Ext.drew | apply Ext.alloc | (refine Ext.set ?_ (by first | (simp; done) | (simp; omega) | omega) _) | (refine Ext.trans ?_ (by assumption))))) hx_w5
    go_wp2_with fail
    (with_reducible refine (C6.out _ (hT.ext (by with_reducible (repeat (first | exact Ext.refl _ | apply Ext.drewN | apply Ext.drew | apply Ext.alloc | (refine Ext.set ?_ (by first | (simp; done) | (simp; omega) | omega) _) | (refine Ext.trans ?_ (by assumption))))))).mono ?_)
    rintro e w6 ⟨rfl, hx_w6⟩
    have hz_w6 := hx_w6.size
    (try simp at hz_w6)
    have hq0_w6 : w1.heap.size < w6.heap.size := by omega
    have hc0_w6 : ∀ o, w6.cell? ⟨w1.heap.size, o, none⟩ = _ := fun o => hx_w6.cells.1 _ o (by first | (simp; done) | (simp; omega) | omega)
    have hq1_w6 : w2.heap.size < w6.heap.size := by omega
    have hc1_w6 : ∀ o, w6.cell? ⟨w2.heap.size, o, none⟩ = _ := fun o => hx_w6.cells.1 _ o (by first | (simp; done) | (simp; omega) | omega)
    have hq2_w6 : w3.heap.size < w6.heap.size := by omega
    have hc2_w6 : ∀ o, w6.cell? ⟨w3.heap.size, o, none⟩ = _ := fun o => hx_w6.cells.1 _ o (by first | (simp; done) | (simp; omega) | omega)
    have hE_w6 : Ext w w6 := Ext.trans (by with_reducible (repeat (first | exact Ext.refl _ | apply Ext.drewN | apply Ext.drew | apply Ext.alloc | (refine Ext.set ?_ (by first | (simp; done) | (simp; omega) | omega) _) | (refine Ext.trans ?_ (by assumption))))) hx_w6
    go_wp2
    go_ret
    exact ⟨congrArg (fun b => Ending.returned (Value.bool b)) HSE.out, Ext.below (by with_reducible (repeat (first | exact Ext.refl _ | apply Ext.drewN | apply Ext.drew | apply Ext.alloc | (refine Ext.set ?_ (by first | (simp; done) | (simp; omega) | omega) _) | (refine Ext.trans ?_ (by assumption)))))⟩
  · have hsv : sgn U V = 1 := by unfold sgn; rw [if_neg (by omega), if_pos hUV]
    have C4 := C4.out
    have C5 := C5.out
    rw [hsv] at C4 C5
    have C4 := Lib.hid C4
    have C5 := Lib.hid C5
    clear hsv
    have hVU : ¬ U < V := by omega
    go_wp2_with fail
    (with_reducible refine (C4.out _).mono ?_)
    rintro e w4 ⟨rfl, hx_w4⟩
    have hz_w4 := hx_w4.size
    (try simp at hz_w4)
    have hq0_w4 : w1.heap.size < w4.heap.size := by omega
    have hc0_w4 : ∀ o, w4.cell? ⟨w1.heap.size, o, none⟩ = _ := fun o => hx_w4.cells.1 _ o (by first | (simp; done) | (simp; omega) | omega)
    have hq1_w4 : w2.heap.size < w4.heap.size := by omega
    have hc1_w4 : ∀ o, w4.cell? ⟨w2.heap.size, o, none⟩ = _ := fun o => hx_w4.cells.1 _ o (by first | (simp; done) | (simp; omega) | omega)
    have hq2_w4 : w3.heap.size < w4.heap.size := by omega
    have hc2_w4 : ∀ o, w4.cell? ⟨w3.heap.size, o, none⟩ = _ := fun o => hx_w4.cells.1 _ o (by first | (simp; done) | (simp; omega) | omega)
    have hE_w4 : Ext w w4 := Ext.trans (by with_reducible (repeat (first | exact Ext.refl _ | apply Ext.drewN | apply Ext.drew | apply Ext.alloc | (refine Ext.set ?_ (by first | (simp; done) | (simp; omega) | omega) _) | (refine Ext.trans ?_ (by assumption))))) hx_w4
    go_wp2_with fail
    (with_reducible refine (C5.out _).mono ?_)
    rintro e w5 ⟨rfl, hx_w5⟩
    have hz_w5 := hx_w5.size
    (try simp at hz_w5)
    have hq0_w5 : w1.heap.size < w5.heap.size := by omega
    have hc0_w5 : ∀ o, w5.cell? ⟨w1.heap.size, o, none⟩ = _ := fun o => hx_w5.cells.1 _ o (by first | (simp; done) | (simp; omega) | omega)
    have hq1_w5 : w2.heap.size < w5.heap.size := by omega
    have hc1_w5 : ∀ o, w5.cell? ⟨w2.heap.size, o, none⟩ = _ := fun o => hx_w5.cells.1 _ o (by first | (simp; done) | (simp; omega) | omega)
    have hq2_w5 : w3.heap.size < w5.heap.size := by omega
    have hc2_w5 : ∀ o, w5.cell? ⟨w3.heap.size, o, none⟩ = _ := fun o => hx_w5.cells.1 _ o (by first | (simp; done) | (simp; omega) | omega)
    have hE_w5 : Ext w w5 := Ext.trans (by with_reducible (repeat (first | exact Ext.refl _ | apply Ext.drewN | apply Ext.drew | apply Ext.alloc | (refine Ext.set ?_ (by first | (simp; done) | (simp; omega) | omega) _) | (refine Ext.trans ?_ (by assumption))))) hx_w5
    go_wp2_with fail
    (with_reducible refine (C6.out _ (hT.ext (by with_reducible (repeat (first | exact Ext.refl _ | apply Ext.drewN | apply Ext.drew | apply Ext.alloc | (refine Ext.set ?_ (by first | (simp; done) | (simp; omega) | omega) _) | (refine Ext.trans ?_ (by assumption))))))).mono ?_)
    rintro e w6 ⟨rfl, hx_w6⟩
    have hz_w6 := hx_w6.size
    (try simp at hz_w6)
    have hq0_w6 : w1.heap.size < w6.heap.size := by omega
    have hc0_w6 : ∀ o, w6.cell? ⟨w1.heap.size, o, none⟩ = _ := fun o => hx_w6.cells.1 _ o (by first | (simp; done) | (simp; omega) | omega)
    have hq1_w6 : w2.heap.size < w6.heap.size := by omega
    have hc1_w6 : ∀ o, w6.cell? ⟨w2.heap.size, o, none⟩ = _ := fun o => hx_w6.cells.1 _ o (by first | (simp; done) | (simp; omega) | omega)
    have hq2_w6 : w3.heap.size < w6.heap.size := by omega
    have hc2_w6 : ∀ o, w6.cell? ⟨w3.heap.size, o, none⟩ = _ := fun o => hx_w6.cells.1 _ o (by first | (simp; done) | (simp; omega) | omega)
    have hE_w6 : Ext w w6 := Ext.trans (by with_reducible (repeat (first | exact Ext.refl _ | apply Ext.drewN | apply Ext.drew | apply Ext.alloc | (refine Ext.set ?_ (by first | (simp; done) | (simp; omega) | omega) _) | (refine Ext.trans ?_ (by assumption))))) hx_w6
    go_wp2
    go_ret
    exact ⟨congrArg (fun b => Ending.returned (Value.bool b)) HSE.out, Ext.below (by with_reducible (repeat (first | exact Ext.refl _ | apply Ext.drewN | apply Ext.drew | apply Ext.alloc | (refine Ext.set ?_ (by first | (simp; done) | (simp; omega) | omega) _) | (refine Ext.trans ?_ (by assumption)))))⟩
end Go.Proofs.YtenljcmaljeffaaDoor.fnFractions
