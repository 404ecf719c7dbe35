/- The holds before the throws of some beats: contracts of HoldsOf. No condition but the stated bounds. -/
import Derived.Test.YtbaabghehpcjnaaFtm
import Derived.Test.YtbaabghehpcjnaaHandOf
import Derived.Test.YtbaabghehpcjnaaApp
import Derived.Outline
namespace Go.Proofs.Ytbaabghehpcjnaa
set_option linter.unusedVariables false
set_option linter.unusedSimpArgs false
open Go.RowKit

/-- The hold before the throw at a beat. -/
def hrow (xs : List Int) (b d z : Int) : List Int := if 0 < thAt xs z then [z % 2, z, z * b - d, z * b] else []
def hrows (xs : List Int) (b d : Int) : Nat → List Int
  | 0 => []
  | k + 1 => hrows xs b d k ++ hrow xs b d k
/-- How many holds there are. -/
def hcn (xs : List Int) : Nat → Nat
  | 0 => 0
  | k + 1 => hcn xs k + if 0 < thAt xs k then 1 else 0
theorem hcn_le (xs : List Int) (k : Nat) : hcn xs k ≤ k := by
  induction k with
  | zero => exact Nat.le_refl _
  | succ k ih => simp only [hcn]; split <;> omega
theorem hrows_bd {xs : List Int} {b d : Int} (hb : 2 ≤ b ∧ b ≤ 30) (hd : 1 ≤ d ∧ d ≤ 2 * b) (k : Nat) (hk : k ≤ 200) : ∀ y ∈ hrows xs b d k, -9223372036854775808 ≤ y ∧ y ≤ 9223372036854775807 := by
  induction k with
  | zero => intro y hy; cases hy
  | succ k ih =>
    intro y hy
    simp only [hrows, List.mem_append] at hy
    rcases hy with hy | hy
    · exact ih (by omega) y hy
    · unfold hrow at hy
      split at hy
      · have hp := mul_bd (a := (k : Int)) (b := b) (A := 200) (B := 30) (by omega) (by omega)
        have hm := Int.emod_nonneg (k : Int) (show (2 : Int) ≠ 0 by omega)
        have hm2 := Int.emod_lt_of_pos (k : Int) (show (0 : Int) < 2 by omega)
        simp only [List.mem_cons, List.not_mem_nil, or_false] at hy
        rcases hy with rfl | rfl | rfl | rfl <;> omega
      · cases hy
theorem elHold : ElInfo Try.prog 39 4 := elInfo (z := .agg #[.int .i64 0, .int .i64 0, .int .i64 0, .int .i64 0]) (by kernel_rfl) rfl
/-- What HoldsOf gives. -/
def hldn (xs : List Int) (b d t : Int) : Nat := if tcd (vpat xs) (vtim b d && btw t 0 200) (fits xs b d) = 0 then hcn xs t.toNat else 0
def hlds (xs : List Int) (b d t : Int) : List Int := if tcd (vpat xs) (vtim b d && btw t 0 200) (fits xs b d) = 0 then hrows xs b d t.toNat else []
theorem hlds_bd (xs : List Int) (b d t : Int) : hldn xs b d t ≤ 1048576 ∧ ∀ y ∈ hlds xs b d t, -9223372036854775808 ≤ y ∧ y ≤ 9223372036854775807 := by
  unfold hldn hlds
  split
  · rename_i hr
    obtain ⟨_, htt, _⟩ := tcd_zero hr
    rw [Bool.and_eq_true] at htt
    have ht := btw_iff.1 htt.2
    obtain ⟨hb, hd⟩ := vtim_iff.1 htt.1
    have := hcn_le xs t.toNat
    exact ⟨by omega, hrows_bd hb hd _ (by omega)⟩
  · exact ⟨by omega, by simp⟩
set_option maxHeartbeats 2000000 in
set_option maxRecDepth 100000 in
theorem implHoldsOf_yes (A : Option Addr) (n c : Nat) (xs : List Int) (b d : Int) (t : Nat) (w : World) (hI : Ints w A n xs) (ht : t ≤ 200) (hr : tcd (vpat xs) (vtim b d && btw (t : Int) 0 200) (fits xs b d) = 0) :
    Calls Try.prog 13 #[.slice A n c, .agg #[.int .i64 b, .int .i64 d], .int .i64 t] w (RetRow w 39 4 (hcn xs t) (hrows xs b d t) 0) := by
  obtain ⟨hv, htt, hf⟩ := tcd_zero hr
  rw [Bool.and_eq_true] at htt
  obtain ⟨hb, hd⟩ := vtim_iff.1 htt.1
  have HV := Lib.hid hv
  have HC := Lib.hid hr
  clear hv htt hf hr
  go_enter Try.func13, Try.ntmps13
  go_wp2_with (first | (go_at_call 27; (with_reducible refine (timingCode_is _ _ _ xs b d _ _ _ (hI.ext (by with_reducible (repeat (first | exact Ext.refl _ | apply Ext.drewN | apply Ext.drew | apply Ext.alloc | (refine Ext.set ?_ (by first | (simp; done) | (simp; omega) | omega) _) | (refine Ext.trans ?_ (by assumption)))))) 0 HC.out).mono ?_); rintro e w1 ⟨rfl, hx⟩; have hz := hx.size; (try simp at hz); (try (have hq0 : w.heap.size < w1.heap.size := by omega)); (try (have hc0 : ∀ o, w1.cell? ⟨w.heap.size, o, none⟩ = _ := fun o => hx.cells.1 _ o (by first | (simp; done) | (simp; omega) | omega))); (try (have hf0 : ∀ o, w1.frozen? ⟨w.heap.size, o, none⟩ = _ := fun o => hx.cells.2 _ o (by first | (simp; done) | (simp; omega) | omega))); (try (have hq1 : w.heap.size + 1 < w1.heap.size := by omega)); (try (have hc1 : ∀ o, w1.cell? ⟨w.heap.size + 1, o, none⟩ = _ := fun o => hx.cells.1 _ o (by first | (simp; done) | (simp; omega) | omega))); (try (have hf1 : ∀ o, w1.frozen? ⟨w.heap.size + 1, o, none⟩ = _ := fun o => hx.cells.2 _ o (by first | (simp; done) | (simp; omega) | omega))); (try (have hq2 : w.heap.size + 2 < w1.heap.size := by omega)); (try (have hc2 : ∀ o, w1.cell? ⟨w.heap.size + 2, o, none⟩ = _ := fun o => hx.cells.1 _ o (by first | (simp; done) | (simp; omega) | omega))); (try (have hf2 : ∀ o, w1.frozen? ⟨w.heap.size + 2, o, none⟩ = _ := fun o => hx.cells.2 _ o (by first | (simp; done) | (simp; omega) | omega)))))
  have cb := hc0 0
  have cd := hc0 1
  simp at cb cd
  clear hc0
  have hxw : Ext w w1 := (by with_reducible (repeat (first | exact Ext.refl _ | apply Ext.drewN | apply Ext.drew | apply Ext.alloc | (refine Ext.set ?_ (by first | (simp; done) | (simp; omega) | omega) _) | (refine Ext.trans ?_ (by assumption)))))
  go_loopw [9, 20, 10] (fun v i _ wr => ∃ k : Nat, k ≤ t ∧ i = .int .i64 k ∧ OwnR 39 4 w1 wr v (hcn xs k) (hrows xs b d k)) (fun _ i _ _ => t - (intOf i).toNat)
  case atStart => exact ⟨0, Nat.zero_le _, rfl, ownR_empty (Ext.refl _) _ _⟩
  case round =>
    obtain ⟨k, hk, rfl, hown⟩ := hrel
    by_cases hlt : k < t
    · have hcb := (hown.ext.cells.1 w.heap.size 0 hq0).trans cb
      have hcd := (hown.ext.cells.1 w.heap.size 1 hq0).trans cd
      have hxr := hown.ext
      have hcn1 := hcn_le xs k
      have hp := mul_bd (a := (k : Int)) (b := b) (A := 200) (B := 30) (by omega) (by omega)
      by_cases h0 : 0 < thAt xs k
      · have HS : Hid (hrows xs b d (k + 1) = hrows xs b d k ++ [(k : Int) % 2, (k : Int), (k : Int) * b - d, (k : Int) * b]) := by show _ = _; simp only [hrows, hrow]; rw [if_pos h0]
        have HN : Hid (hcn xs (k + 1) = hcn xs k + 1) := by show _ = _; simp only [hcn]; rw [if_pos h0]
        have e1 : IntKind.i64.wrap ((k : Int) * b) = (k : Int) * b := IntWalk.i64_in _ (by omega)
        have e2 : IntKind.i64.wrap ((k : Int) * b - d) = (k : Int) * b - d := IntWalk.i64_in _ (by omega)
        go_wp2_with (go_at_call 34; (with_reducible refine (throwAt_any _ _ _ xs _ _ (hI.ext (hxw.trans (by with_reducible (repeat (first | exact Ext.refl _ | apply Ext.drewN | apply Ext.drew | apply Ext.alloc | (refine Ext.set ?_ (by first | (simp; done) | (simp; omega) | omega) _) | (refine Ext.trans ?_ (by assumption))))))) HV.out).mono ?_); rintro e w' ⟨rfl, rfl⟩)
        go_region_held3 (fun wz => wz.cell? ⟨w.heap.size, 0, none⟩ = some (.int .i64 b) ∧ wz.cell? ⟨w.heap.size, 1, none⟩ = some (.int .i64 d)) (go_keep)
          (first | (go_at_call 14; (with_reducible refine (implHandOf_any _ _).mono ?_); rintro e w' ⟨rfl, rfl⟩) | ((refine stepM elHold (by omega) (by rfl) _ _ Try.underlying35 (by rfl) (by rfl) (hown.trans (by with_reducible (repeat (first | exact Ext.refl _ | apply Ext.drewN | apply Ext.drew | apply Ext.alloc | (refine Ext.set ?_ (by first | (simp; done) | (simp; omega) | omega) _) | (refine Ext.trans ?_ (by assumption)))))) (by omega) (by rfl) (heap_alloc_new _ _) (ys := [(k : Int) % 2, (k : Int), (k : Int) * b - d, (k : Int) * b]) (by rfl) (by rfl) ?_); intro v' w2 hown'; have hcb' := (hown'.ext.cells.1 w.heap.size 0 hq0).trans cb; have hcd' := (hown'.ext.cells.1 w.heap.size 1 hq0).trans cd))
        clear e1 e2
        go_wp2
        go_roundw
        case rel => exact ⟨k + 1, by omega, by go_num, by rw [HS.out, HN.out]; exact hown'⟩
        case measure => simp [intOf]; omega
      · have HS : Hid (hrows xs b d (k + 1) = hrows xs b d k) := by show _ = _; simp only [hrows, hrow]; rw [if_neg h0, List.append_nil]
        have HN : Hid (hcn xs (k + 1) = hcn xs k) := by show _ = _; simp only [hcn]; rw [if_neg h0]; omega
        go_wp2_with (go_at_call 34; (with_reducible refine (throwAt_any _ _ _ xs _ _ (hI.ext (hxw.trans (by with_reducible (repeat (first | exact Ext.refl _ | apply Ext.drewN | apply Ext.drew | apply Ext.alloc | (refine Ext.set ?_ (by first | (simp; done) | (simp; omega) | omega) _) | (refine Ext.trans ?_ (by assumption))))))) HV.out).mono ?_); rintro e w' ⟨rfl, rfl⟩)
        go_roundw
        case rel => exact ⟨k + 1, by omega, by go_num, by rw [HS.out, HN.out]; exact hown⟩
        case measure => simp [intOf]; omega
    · obtain rfl : k = t := by omega
      obtain ⟨A1, c1, rfl⟩ := hown.forms
      have HT : Hid (RetRow w 39 4 (hcn xs k) (hrows xs b d k) 0 (.returned (.tuple #[.slice A1 (hcn xs k) c1, .int .i64 0])) wr) := RetRow.of_ownR rfl (hown.rebase hxw)
      go_wp2
      go_ret2
      exact HT.out
theorem implHoldsOf_no (A : Option Addr) (n c : Nat) (xs : List Int) (b d t : Int) (w : World) (hI : Ints w A n xs) (r : Int) (hr : tcd (vpat xs) (vtim b d && btw t 0 200) (fits xs b d) = r) (h0 : (r != 0) = true) :
    Calls Try.prog 13 #[.slice A n c, .agg #[.int .i64 b, .int .i64 d], .int .i64 t] w (RetRow w 39 4 0 [] r) := by
  go_enter Try.func13, Try.ntmps13
  go_wp2_with (first | (go_at_call 27; (with_reducible refine (timingCode_is _ _ _ xs b d _ _ _ (hI.ext (by with_reducible (repeat (first | exact Ext.refl _ | apply Ext.drewN | apply Ext.drew | apply Ext.alloc | (refine Ext.set ?_ (by first | (simp; done) | (simp; omega) | omega) _) | (refine Ext.trans ?_ (by assumption)))))) r hr).mono ?_); rintro e w1 ⟨rfl, hx⟩; have hz := hx.size; (try simp at hz); (try (have hq0 : w.heap.size < w1.heap.size := by omega)); (try (have hc0 : ∀ o, w1.cell? ⟨w.heap.size, o, none⟩ = _ := fun o => hx.cells.1 _ o (by first | (simp; done) | (simp; omega) | omega))); (try (have hf0 : ∀ o, w1.frozen? ⟨w.heap.size, o, none⟩ = _ := fun o => hx.cells.2 _ o (by first | (simp; done) | (simp; omega) | omega))); (try (have hq1 : w.heap.size + 1 < w1.heap.size := by omega)); (try (have hc1 : ∀ o, w1.cell? ⟨w.heap.size + 1, o, none⟩ = _ := fun o => hx.cells.1 _ o (by first | (simp; done) | (simp; omega) | omega))); (try (have hf1 : ∀ o, w1.frozen? ⟨w.heap.size + 1, o, none⟩ = _ := fun o => hx.cells.2 _ o (by first | (simp; done) | (simp; omega) | omega))); (try (have hq2 : w.heap.size + 2 < w1.heap.size := by omega)); (try (have hc2 : ∀ o, w1.cell? ⟨w.heap.size + 2, o, none⟩ = _ := fun o => hx.cells.1 _ o (by first | (simp; done) | (simp; omega) | omega))); (try (have hf2 : ∀ o, w1.frozen? ⟨w.heap.size + 2, o, none⟩ = _ := fun o => hx.cells.2 _ o (by first | (simp; done) | (simp; omega) | omega)))))
  go_ret2
  exact RetRow.of_nil rfl (by with_reducible (repeat (first | exact Ext.refl _ | apply Ext.drewN | apply Ext.drew | apply Ext.alloc | (refine Ext.set ?_ (by first | (simp; done) | (simp; omega) | omega) _) | (refine Ext.trans ?_ (by assumption)))))
theorem implHoldsOf_ret (A : Option Addr) (n c : Nat) (xs : List Int) (b d t : Int) (w : World) (hI : Ints w A n xs) :
    Calls Try.prog 13 #[.slice A n c, .agg #[.int .i64 b, .int .i64 d], .int .i64 t] w (RetRow w 39 4 (hldn xs b d t) (hlds xs b d t) (tcd (vpat xs) (vtim b d && btw t 0 200) (fits xs b d))) := by
  unfold hldn hlds
  by_cases hr : tcd (vpat xs) (vtim b d && btw t 0 200) (fits xs b d) = 0
  · rw [if_pos hr, if_pos hr, hr]
    obtain ⟨_, htt, _⟩ := tcd_zero hr
    rw [Bool.and_eq_true] at htt
    have ht := btw_iff.1 htt.2
    obtain ⟨k, rfl⟩ : ∃ k : Nat, t = k := ⟨t.toNat, by omega⟩
    rw [Int.toNat_natCast]
    exact implHoldsOf_yes A n c xs b d k w hI (by omega) hr
  · rw [if_neg hr, if_neg hr]
    exact implHoldsOf_no A n c xs b d t w hI _ rfl (by simpa using hr)
end Go.Proofs.Ytbaabghehpcjnaa
