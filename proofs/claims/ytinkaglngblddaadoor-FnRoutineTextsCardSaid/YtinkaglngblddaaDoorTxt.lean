/- Texts of timings and of fractions: contracts, under the library's table of powers. -/
import Derived.Test.YtinkaglngblddaaDoorDec
import Derived.Test.YtinkaglngblddaaDoorTim
import Derived.Test.YtinkaglngblddaaDoorFrm
import Derived.Lib.LaidTab
import Derived.WalkSmall
import Derived.LaidLaws
import Derived.Deep.RegionHeld3
namespace Go.Proofs.YtinkaglngblddaaDoor
set_option linter.unusedVariables false
set_option linter.unusedSimpArgs false
open Go.RowKit Go.Joins

/-- The library's table of powers lies. -/
def Tab (w : World) : Prop := Lib.TabIs Tryd.prog w "internal/strconv.uint64pow10" .u64 Lib.pow10Tab
theorem gTab : Tryd.prog.globalNamed "internal/strconv.uint64pow10" = some 0 := by kernel_rfl
theorem Tab.lt {w : World} (h : Tab w) : 0 < w.heap.size := by
  unfold Tab Lib.TabIs World.var? at h
  rw [gTab] at h
  rcases Nat.eq_zero_or_pos w.heap.size with h0 | h0
  · simp only [Option.bind_some] at h
    rw [Array.getElem?_eq_none (by omega)] at h
    cases h
  · exact h0
theorem Tab.ext {w w' : World} (h : Tab w) (k : Ext w w') : Tab w' := var?_below (B := w.heap.size) k gTab h.lt h
/-- The row's condition gives the table. -/
theorem tab_of_laid {W : World} (h : laidMet Tryd.prog [("math/bits.deBruijn32tab", Rows.laid_math_bits_deBruijn32tab), ("math/bits.deBruijn64tab", Rows.laid_math_bits_deBruijn64tab), ("internal/strconv.uint64pow10", Rows.laid_internal_strconv_uint64pow10)] W) : Tab W := by
  obtain ⟨ps, ⟨g0, t0, cs0, f0, p0, q0, _, _, _, _, ⟨g1, t1, cs1, f1, p1, q1, _, _, _, _, ⟨g2, t2, cs2, f2, p2, q2, hg2, ht2, hv2, hd2, _, _⟩, _⟩, _⟩, _⟩ := h
  obtain rfl := Option.some.inj (gTab.symm.trans hg2)
  obtain rfl := Option.some.inj ((show (Tryd.prog.globals[0]?).map (·.type) = some 115 by kernel_rfl).symm.trans ht2)
  unfold Tab Lib.TabIs
  rw [hv2]
  rw [← Lib.cells_of_tab (zs := Lib.pow10Tab) Tryd.underlying115 Tryd.underlying91 (by kernel_rfl) (by kernel_rfl) hd2]
theorem DecimalT_any (n : Int) (hn : -9223372036854775808 ≤ n ∧ n ≤ 9223372036854775807) (w : World) (hT : Tab w) :
    Calls Tryd.prog 26 #[.int .i64 n] w fun e w' => e = .returned (.string (dec n)) ∧ Ext w w' := Decimal_any n hn w hT
/-- Two numbers with a stroke between them. -/
def strk (a b : Int) : ByteArray := dec a ++ ⟨#[47]⟩ ++ dec b
/-- A timing's text. -/
def tmt (b d : Int) : ByteArray := if vtim b d = true then strk b d else ⟨#[]⟩
/-- A fraction's text. -/
def frt (n d : Int) : ByteArray := if d < 1 then ⟨#[]⟩ else if d = 1 then dec n else strk n d
end Go.Proofs.YtinkaglngblddaaDoor
