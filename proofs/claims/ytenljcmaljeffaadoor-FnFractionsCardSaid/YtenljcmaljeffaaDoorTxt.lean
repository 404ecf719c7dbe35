/- Texts of timings and of fractions: contracts, under the library's table of powers. -/
import Derived.Test.YtenljcmaljeffaaDoorDec
import Derived.Test.YtenljcmaljeffaaDoorTim
import Derived.Test.YtenljcmaljeffaaDoorFrm
import Derived.Lib.LaidTab
import Derived.WalkSmall
import Derived.LaidLaws
import Derived.Deep.RegionHeld3
namespace Go.Proofs.YtenljcmaljeffaaDoor
set_option linter.unusedVariables false
set_option linter.unusedSimpArgs false
open Go.RowKit Go.Joins

/-- The library's table of powers lies. -/
def Tab (w : World) : Prop := Lib.TabIs Tryd.prog w "internal/strconv.uint64pow10" .u64 Lib.pow10Tab
theorem gTab : Tryd.prog.globalNamed "internal/strconv.uint64pow10" = some 0 := by kernel_rfl
theorem Tab.lt {w : World} (h : Tab w) : 0 < w.heap.size := by
  unfold Tab Lib.TabIs World.var? at h
  rw [gTab] at h
  rcases Nat.eq_zero_or_pos w.heap.size with h0 | h0
  · simp only [Option.bind_some] at h
    rw [Array.getElem?_eq_none (by omega)] at h
    cases h
  · exact h0
theorem Tab.ext {w w' : World} (h : Tab w) (k : Ext w w') : Tab w' := var?_below (B := w.heap.size) k gTab h.lt h
/-- The row's condition gives the table. -/
theorem tab_of_laid {W : World} (h : laidMet Tryd.prog [("math/bits.deBruijn32tab", Rows.laid_math_bits_deBruijn32tab), ("math/bits.deBruijn64tab", Rows.laid_math_bits_deBruijn64tab), ("internal/strconv.uint64pow10", Rows.laid_internal_strconv_uint64pow10)] W) : Tab W := by
  obtain ⟨ps, ⟨g0, t0, cs0, f0, p0, q0, _, _, _, _, ⟨g1, t1, cs1, f1, p1, q1, _, _, _, _, ⟨g2, t2, cs2, f2, p2, q2, hg2, ht2, hv2, hd2, _, _⟩, _⟩, _⟩, _⟩ := h
  obtain rfl := Option.some.inj (gTab.symm.trans hg2)
  obtain rfl := Option.some.inj ((show (Tryd.prog.globals[0]?).map (·.type) = some 58 by kernel_rfl).symm.trans ht2)
  unfold Tab Lib.TabIs
  rw [hv2]
  rw [← Lib.cells_of_tab (zs := Lib.pow10Tab) Tryd.underlying58 Tryd.underlying51 (by kernel_rfl) (by kernel_rfl) hd2]
theorem DecimalT_any (n : Int) (hn : -9223372036854775808 ≤ n ∧ n ≤ 9223372036854775807) (w : World) (hT : Tab w) :
    Calls Tryd.prog 19 #[.int .i64 n] w fun e w' => e = .returned (.string (dec n)) ∧ Ext w w' := Decimal_any n hn w hT
/-- Two numbers with a stroke between them. -/
def strk (a b : Int) : ByteArray := dec a ++ ⟨#[47]⟩ ++ dec b
/-- A timing's text. -/
def tmt (b d : Int) : ByteArray := if vtim b d = true then strk b d else ⟨#[]⟩
/-- A fraction's text. -/
def frt (n d : Int) : ByteArray := if d < 1 then ⟨#[]⟩ else if d = 1 then dec n else strk n d
set_option maxHeartbeats 2000000 in
theorem implTimingText_any (b : Int) (d : Int) (w : World) (hb : -9223372036854775808 ≤ b ∧ b ≤ 9223372036854775807) (hd : -9223372036854775808 ≤ d ∧ d ≤ 9223372036854775807) (hT : Tab w) :
    Calls Tryd.prog 8 #[.agg #[.int .i64 b, .int .i64 d]] w fun e w' => e = .returned (.string (tmt b d)) ∧ Ext w w' := by
  have hs1 := dec_size hb
  have hs2 := dec_size hd
  cases hv : vtim b d
  · have HR : Hid (tmt b d = ⟨#[]⟩) := by show _ = _; unfold tmt; rw [if_neg (by rw [hv]; exact Bool.false_ne_true)]
    go_enter Tryd.func8, Tryd.ntmps8
    go_wp2_with fail
    (with_reducible refine (implValidTiming_any _ _ _).mono ?_)
    rw [hv]
    rintro e w1 ⟨rfl, hx⟩
    go_wp2
    go_ret
    exact ⟨by rw [HR.out]; rfl, Ext.trans (by with_reducible (repeat (first | exact Ext.refl _ | apply Ext.drewN | apply Ext.drew | apply Ext.alloc | (refine Ext.set ?_ (by first | (simp; done) | (simp; omega) | omega) _) | (refine Ext.trans ?_ (by assumption))))) hx⟩
  · have HR : Hid (tmt b d = dec b ++ ⟨#[47]⟩ ++ dec d) := by show _ = _; unfold tmt strk; rw [if_pos hv]
    obtain ⟨sb, hsb⟩ : ∃ s, dec b = s := ⟨_, rfl⟩
    obtain ⟨sd, hsd⟩ : ∃ s, dec d = s := ⟨_, rfl⟩
    have HB := Lib.hid hsb
    have HD := Lib.hid hsd
    rw [hsb] at hs1
    rw [hsd] at hs2
    clear hsb hsd
    have hs3 : ¬ 9223372036854775807 < sb.size + 1 := by omega
    have hs4 : ¬ 9223372036854775807 < sb.size + 1 + sd.size := by omega
    go_enter Tryd.func8, Tryd.ntmps8
    go_wp2_with fail
    (with_reducible refine (implValidTiming_any _ _ _).mono ?_)
    rw [hv]
    rintro e w1 ⟨rfl, hx⟩
    have hz := hx.size
    (try simp at hz)
    have hq : w.heap.size < w1.heap.size := by omega
    have hc : ∀ o, w1.cell? ⟨w.heap.size, o, none⟩ = _ := fun o => hx.cells.1 _ o (by first | (simp; done) | (simp; omega) | omega)
    have cb := fun W hW => (DecimalT_any b hb W hW : Calls Tryd.prog 19 #[.int .i64 b] W _)
    have cd := fun W hW => (DecimalT_any d hd W hW : Calls Tryd.prog 19 #[.int .i64 d] W _)
    rw [HB.out] at cb
    rw [HD.out] at cd
    go_wp2
    go_region_held3 (fun wz => wz.cell? ⟨w.heap.size, 0, none⟩ = some (.int .i64 b) ∧ wz.cell? ⟨w.heap.size, 1, none⟩ = some (.int .i64 d)) (go_keep)
      (first | (go_at_call 19; (with_reducible refine (cb _ (hT.ext (by with_reducible (repeat (first | exact Ext.refl _ | apply Ext.drewN | apply Ext.drew | apply Ext.alloc | (refine Ext.set ?_ (by first | (simp; done) | (simp; omega) | omega) _) | (refine Ext.trans ?_ (by assumption))))))).mono ?_); rintro e wa ⟨rfl, hx_wa⟩; have hz_wa := hx_wa.size; (try simp at hz_wa); (have hq0_wa : w.heap.size < wa.heap.size := by omega); (have hc0_wa : ∀ o, wa.cell? ⟨w.heap.size, o, none⟩ = _ := fun o => hx_wa.cells.1 _ o (by first | (simp; done) | (simp; omega) | omega))) | (go_at_call 19; (with_reducible refine (cd _ (hT.ext (by with_reducible (repeat (first | exact Ext.refl _ | apply Ext.drewN | apply Ext.drew | apply Ext.alloc | (refine Ext.set ?_ (by first | (simp; done) | (simp; omega) | omega) _) | (refine Ext.trans ?_ (by assumption))))))).mono ?_); rintro e wb ⟨rfl, hx_wb⟩; have hz_wb := hx_wb.size; (try simp at hz_wb); (have hq0_wb : w.heap.size < wb.heap.size := by omega); (have hc0_wb : ∀ o, wb.cell? ⟨w.heap.size, o, none⟩ = _ := fun o => hx_wb.cells.1 _ o (by first | (simp; done) | (simp; omega) | omega))))
    go_wp2
    go_ret
    exact ⟨by rw [HR.out, HB.out, HD.out]; rfl, (by with_reducible (repeat (first | exact Ext.refl _ | apply Ext.drewN | apply Ext.drew | apply Ext.alloc | (refine Ext.set ?_ (by first | (simp; done) | (simp; omega) | omega) _) | (refine Ext.trans ?_ (by assumption)))))⟩
set_option maxHeartbeats 2000000 in
theorem implFractionText_any (n : Int) (d : Int) (w : World) (hn : -9223372036854775808 ≤ n ∧ n ≤ 9223372036854775807) (hd : -9223372036854775808 ≤ d ∧ d ≤ 9223372036854775807) (hT : Tab w) :
    Calls Tryd.prog 11 #[.agg #[.int .i64 n, .int .i64 d]] w fun e w' => e = .returned (.string (frt n d)) ∧ Ext w w' := by
  by_cases h1 : d < 1
  · have HR : Hid (frt n d = ⟨#[]⟩) := by show _ = _; unfold frt; rw [if_pos h1]
    go_enter Tryd.func11, Tryd.ntmps11
    go_wp2
    go_ret
    exact ⟨by rw [HR.out]; rfl, (by with_reducible (repeat (first | exact Ext.refl _ | apply Ext.drewN | apply Ext.drew | apply Ext.alloc | (refine Ext.set ?_ (by first | (simp; done) | (simp; omega) | omega) _) | (refine Ext.trans ?_ (by assumption)))))⟩
  have hs1 := dec_size hn
  have hs2 := dec_size hd
  by_cases h2 : d = 1
  · subst h2
    have HR : Hid (frt n 1 = dec n) := by show _ = _; unfold frt; rw [if_neg h1, if_pos rfl]
    go_enter Tryd.func11, Tryd.ntmps11
    go_wp2_with fail
    (with_reducible refine (DecimalT_any n hn _ (hT.ext (by with_reducible (repeat (first | exact Ext.refl _ | apply Ext.drewN | apply Ext.drew | apply Ext.alloc | (refine Ext.set ?_ (by first | (simp; done) | (simp; omega) | omega) _) | (refine Ext.trans ?_ (by assumption))))))).mono ?_)
    rintro e w1 ⟨rfl, hx⟩
    go_wp2
    go_ret
    exact ⟨by rw [HR.out]; rfl, Ext.trans (by with_reducible (repeat (first | exact Ext.refl _ | apply Ext.drewN | apply Ext.drew | apply Ext.alloc | (refine Ext.set ?_ (by first | (simp; done) | (simp; omega) | omega) _) | (refine Ext.trans ?_ (by assumption))))) hx⟩
  · have HR : Hid (frt n d = dec n ++ ⟨#[47]⟩ ++ dec d) := by show _ = _; unfold frt strk; rw [if_neg h1, if_neg h2]
    obtain ⟨sb, hsb⟩ : ∃ s, dec n = s := ⟨_, rfl⟩
    obtain ⟨sd, hsd⟩ : ∃ s, dec d = s := ⟨_, rfl⟩
    have HB := Lib.hid hsb
    have HD := Lib.hid hsd
    rw [hsb] at hs1
    rw [hsd] at hs2
    clear hsb hsd
    have hs3 : ¬ 9223372036854775807 < sb.size + 1 := by omega
    have hs4 : ¬ 9223372036854775807 < sb.size + 1 + sd.size := by omega
    have h2' : (d == 1) = false := by simpa using h2
    have cb := fun W hW => (DecimalT_any n hn W hW : Calls Tryd.prog 19 #[.int .i64 n] W _)
    have cd := fun W hW => (DecimalT_any d hd W hW : Calls Tryd.prog 19 #[.int .i64 d] W _)
    rw [HB.out] at cb
    rw [HD.out] at cd
    go_enter Tryd.func11, Tryd.ntmps11
    go_wp2
    go_region_held3 (fun wz => wz.cell? ⟨w.heap.size, 0, none⟩ = some (.int .i64 n) ∧ wz.cell? ⟨w.heap.size, 1, none⟩ = some (.int .i64 d)) (go_keep)
      (first | (go_at_call 19; (with_reducible refine (cb _ (hT.ext (by with_reducible (repeat (first | exact Ext.refl _ | apply Ext.drewN | apply Ext.drew | apply Ext.alloc | (refine Ext.set ?_ (by first | (simp; done) | (simp; omega) | omega) _) | (refine Ext.trans ?_ (by assumption))))))).mono ?_); rintro e wa ⟨rfl, hx_wa⟩; have hz_wa := hx_wa.size; (try simp at hz_wa); (have hq0_wa : w.heap.size < wa.heap.size := by omega); (have hc0_wa : ∀ o, wa.cell? ⟨w.heap.size, o, none⟩ = _ := fun o => hx_wa.cells.1 _ o (by first | (simp; done) | (simp; omega) | omega))) | (go_at_call 19; (with_reducible refine (cd _ (hT.ext (by with_reducible (repeat (first | exact Ext.refl _ | apply Ext.drewN | apply Ext.drew | apply Ext.alloc | (refine Ext.set ?_ (by first | (simp; done) | (simp; omega) | omega) _) | (refine Ext.trans ?_ (by assumption))))))).mono ?_); rintro e wb ⟨rfl, hx_wb⟩; have hz_wb := hx_wb.size; (try simp at hz_wb); (have hq0_wb : w.heap.size < wb.heap.size := by omega); (have hc0_wb : ∀ o, wb.cell? ⟨w.heap.size, o, none⟩ = _ := fun o => hx_wb.cells.1 _ o (by first | (simp; done) | (simp; omega) | omega))))
    go_wp2
    go_ret
    exact ⟨by rw [HR.out, HB.out, HD.out]; rfl, (by with_reducible (repeat (first | exact Ext.refl _ | apply Ext.drewN | apply Ext.drew | apply Ext.alloc | (refine Ext.set ?_ (by first | (simp; done) | (simp; omega) | omega) _) | (refine Ext.trans ?_ (by assumption)))))⟩
set_option maxHeartbeats 2000000 in
theorem specTimingText_any (b : Int) (d : Int) (w : World) (hb : -9223372036854775808 ≤ b ∧ b ≤ 9223372036854775807) (hd : -9223372036854775808 ≤ d ∧ d ≤ 9223372036854775807) :
    Calls Tryd.prog 6 #[.agg #[.int .i64 b, .int .i64 d]] w fun e w' => e = .returned (.string (tmt b d)) ∧ Ext w w' := by
  have hs1 := dec_size hb
  have hs2 := dec_size hd
  cases hv : vtim b d
  · have HR : Hid (tmt b d = ⟨#[]⟩) := by show _ = _; unfold tmt; rw [if_neg (by rw [hv]; exact Bool.false_ne_true)]
    go_enter Tryd.func6, Tryd.ntmps6
    go_wp2_with fail
    (with_reducible refine (l15Ok_any _ _ _).mono ?_)
    rw [hv]
    rintro e w1 ⟨rfl, hx⟩
    go_wp2
    go_ret
    exact ⟨by rw [HR.out]; rfl, Ext.trans (by with_reducible (repeat (first | exact Ext.refl _ | apply Ext.drewN | apply Ext.drew | apply Ext.alloc | (refine Ext.set ?_ (by first | (simp; done) | (simp; omega) | omega) _) | (refine Ext.trans ?_ (by assumption))))) hx⟩
  · have HR : Hid (tmt b d = dec b ++ ⟨#[47]⟩ ++ dec d) := by show _ = _; unfold tmt strk; rw [if_pos hv]
    obtain ⟨sb, hsb⟩ : ∃ s, dec b = s := ⟨_, rfl⟩
    obtain ⟨sd, hsd⟩ : ∃ s, dec d = s := ⟨_, rfl⟩
    have HB := Lib.hid hsb
    have HD := Lib.hid hsd
    rw [hsb] at hs1
    rw [hsd] at hs2
    clear hsb hsd
    have hs3 : ¬ 9223372036854775807 < sb.size + 1 := by omega
    have hs4 : ¬ 9223372036854775807 < sb.size + 1 + sd.size := by omega
    go_enter Tryd.func6, Tryd.ntmps6
    go_wp2_with fail
    (with_reducible refine (l15Ok_any _ _ _).mono ?_)
    rw [hv]
    rintro e w1 ⟨rfl, hx⟩
    have hz := hx.size
    (try simp at hz)
    have hq : w.heap.size < w1.heap.size := by omega
    have hc : ∀ o, w1.cell? ⟨w.heap.size, o, none⟩ = _ := fun o => hx.cells.1 _ o (by first | (simp; done) | (simp; omega) | omega)
    have cb := fun W => (l01Dec_any b hb W : Calls Tryd.prog 17 #[.int .i64 b] W _)
    have cd := fun W => (l01Dec_any d hd W : Calls Tryd.prog 17 #[.int .i64 d] W _)
    rw [HB.out] at cb
    rw [HD.out] at cd
    go_wp2
    go_region_held3 (fun wz => wz.cell? ⟨w.heap.size, 0, none⟩ = some (.int .i64 b) ∧ wz.cell? ⟨w.heap.size, 1, none⟩ = some (.int .i64 d)) (go_keep)
      (first | (go_at_call 17; (with_reducible refine (cb _).mono ?_); rintro e wa ⟨rfl, hx_wa⟩; have hz_wa := hx_wa.size; (try simp at hz_wa); (have hq0_wa : w.heap.size < wa.heap.size := by omega); (have hc0_wa : ∀ o, wa.cell? ⟨w.heap.size, o, none⟩ = _ := fun o => hx_wa.cells.1 _ o (by first | (simp; done) | (simp; omega) | omega))) | (go_at_call 17; (with_reducible refine (cd _).mono ?_); rintro e wb ⟨rfl, hx_wb⟩; have hz_wb := hx_wb.size; (try simp at hz_wb); (have hq0_wb : w.heap.size < wb.heap.size := by omega); (have hc0_wb : ∀ o, wb.cell? ⟨w.heap.size, o, none⟩ = _ := fun o => hx_wb.cells.1 _ o (by first | (simp; done) | (simp; omega) | omega))))
    go_wp2
    go_ret
    exact ⟨by rw [HR.out, HB.out, HD.out]; rfl, (by with_reducible (repeat (first | exact Ext.refl _ | apply Ext.drewN | apply Ext.drew | apply Ext.alloc | (refine Ext.set ?_ (by first | (simp; done) | (simp; omega) | omega) _) | (refine Ext.trans ?_ (by assumption)))))⟩
set_option maxHeartbeats 2000000 in
theorem l16Text_any (n : Int) (d : Int) (w : World) (hn : -9223372036854775808 ≤ n ∧ n ≤ 9223372036854775807) (hd : -9223372036854775808 ≤ d ∧ d ≤ 9223372036854775807) (h1 : ¬ d < 1) :
    Calls Tryd.prog 20 #[.agg #[.int .i64 n, .int .i64 d]] w fun e w' => e = .returned (.string (frt n d)) ∧ Ext w w' := by
  have hs1 := dec_size hn
  have hs2 := dec_size hd
  by_cases h2 : d = 1
  · subst h2
    have HR : Hid (frt n 1 = dec n) := by show _ = _; unfold frt; rw [if_neg h1, if_pos rfl]
    go_enter Tryd.func20, Tryd.ntmps20
    go_wp2_with fail
    (with_reducible refine (l01Dec_any n hn _).mono ?_)
    rintro e w1 ⟨rfl, hx⟩
    go_wp2
    go_ret
    exact ⟨by rw [HR.out]; rfl, Ext.trans (by with_reducible (repeat (first | exact Ext.refl _ | apply Ext.drewN | apply Ext.drew | apply Ext.alloc | (refine Ext.set ?_ (by first | (simp; done) | (simp; omega) | omega) _) | (refine Ext.trans ?_ (by assumption))))) hx⟩
  · have HR : Hid (frt n d = dec n ++ ⟨#[47]⟩ ++ dec d) := by show _ = _; unfold frt strk; rw [if_neg h1, if_neg h2]
    obtain ⟨sb, hsb⟩ : ∃ s, dec n = s := ⟨_, rfl⟩
    obtain ⟨sd, hsd⟩ : ∃ s, dec d = s := ⟨_, rfl⟩
    have HB := Lib.hid hsb
    have HD := Lib.hid hsd
    rw [hsb] at hs1
    rw [hsd] at hs2
    clear hsb hsd
    have hs3 : ¬ 9223372036854775807 < sb.size + 1 := by omega
    have hs4 : ¬ 9223372036854775807 < sb.size + 1 + sd.size := by omega
    have h2' : (d == 1) = false := by simpa using h2
    have cb := fun W => (l01Dec_any n hn W : Calls Tryd.prog 17 #[.int .i64 n] W _)
    have cd := fun W => (l01Dec_any d hd W : Calls Tryd.prog 17 #[.int .i64 d] W _)
    rw [HB.out] at cb
    rw [HD.out] at cd
    go_enter Tryd.func20, Tryd.ntmps20
    go_wp2
    go_region_held3 (fun wz => wz.cell? ⟨w.heap.size, 0, none⟩ = some (.int .i64 n) ∧ wz.cell? ⟨w.heap.size, 1, none⟩ = some (.int .i64 d)) (go_keep)
      (first | (go_at_call 17; (with_reducible refine (cb _).mono ?_); rintro e wa ⟨rfl, hx_wa⟩; have hz_wa := hx_wa.size; (try simp at hz_wa); (have hq0_wa : w.heap.size < wa.heap.size := by omega); (have hc0_wa : ∀ o, wa.cell? ⟨w.heap.size, o, none⟩ = _ := fun o => hx_wa.cells.1 _ o (by first | (simp; done) | (simp; omega) | omega))) | (go_at_call 17; (with_reducible refine (cd _).mono ?_); rintro e wb ⟨rfl, hx_wb⟩; have hz_wb := hx_wb.size; (try simp at hz_wb); (have hq0_wb : w.heap.size < wb.heap.size := by omega); (have hc0_wb : ∀ o, wb.cell? ⟨w.heap.size, o, none⟩ = _ := fun o => hx_wb.cells.1 _ o (by first | (simp; done) | (simp; omega) | omega))))
    go_wp2
    go_ret
    exact ⟨by rw [HR.out, HB.out, HD.out]; rfl, (by with_reducible (repeat (first | exact Ext.refl _ | apply Ext.drewN | apply Ext.drew | apply Ext.alloc | (refine Ext.set ?_ (by first | (simp; done) | (simp; omega) | omega) _) | (refine Ext.trans ?_ (by assumption)))))⟩
set_option maxHeartbeats 2000000 in
theorem specFractionText_any (n : Int) (d : Int) (w : World) (hn : -9223372036854775808 ≤ n ∧ n ≤ 9223372036854775807) (hd : -9223372036854775808 ≤ d ∧ d ≤ 9223372036854775807) :
    Calls Tryd.prog 9 #[.agg #[.int .i64 n, .int .i64 d]] w fun e w' => e = .returned (.string (frt n d)) ∧ Ext w w' := by
  by_cases h1 : d < 1
  · have HR : Hid (frt n d = ⟨#[]⟩) := by show _ = _; unfold frt; rw [if_pos h1]
    go_enter Tryd.func9, Tryd.ntmps9
    go_wp2
    go_ret
    exact ⟨by rw [HR.out]; rfl, (by with_reducible (repeat (first | exact Ext.refl _ | apply Ext.drewN | apply Ext.drew | apply Ext.alloc | (refine Ext.set ?_ (by first | (simp; done) | (simp; omega) | omega) _) | (refine Ext.trans ?_ (by assumption)))))⟩
  go_enter Tryd.func9, Tryd.ntmps9
  go_wp2_with fail
  (with_reducible refine (l16Text_any _ _ _ hn hd (by omega)).mono ?_)
  rintro e w1 ⟨rfl, hx⟩
  go_wp2
  go_ret
  exact ⟨rfl, Ext.trans (by with_reducible (repeat (first | exact Ext.refl _ | apply Ext.drewN | apply Ext.drew | apply Ext.alloc | (refine Ext.set ?_ (by first | (simp; done) | (simp; omega) | omega) _) | (refine Ext.trans ?_ (by assumption))))) hx⟩
end Go.Proofs.YtenljcmaljeffaaDoor
