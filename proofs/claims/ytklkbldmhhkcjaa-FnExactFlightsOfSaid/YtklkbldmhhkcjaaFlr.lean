/- The flights of the throws of some beats: contracts of FlightsOf. No condition but the stated bounds. -/
import Derived.Test.YtklkbldmhhkcjaaFlo
namespace Go.Proofs.Ytklkbldmhhkcjaa
set_option linter.unusedVariables false
set_option linter.unusedSimpArgs false
open Go.RowKit

theorem flw_bd {xs : List Int} {b d wd z : Int} (hv : vpat xs = true) (hb : 2 ≤ b ∧ b ≤ 30) (hd : 1 ≤ d ∧ d ≤ 2 * b) (hw : 0 ≤ wd ∧ wd ≤ 16) (hz : 0 ≤ z ∧ z ≤ 200) : ∀ y ∈ flw xs b d wd z, -9223372036854775808 ≤ y ∧ y ≤ 9223372036854775807 := by
  have ht := thAt_bd hv z
  have hp1 := mul_bd (a := z) (b := b) (A := 200) (B := 30) (by omega) (by omega)
  have hp2 := mul_bd (a := z + thAt xs z) (b := b) (A := 215) (B := 30) (by omega) (by omega)
  have h1 := hwd_bd (z := z) (q := 1) hw (by omega)
  have h2 := hwd_bd (z := z + thAt xs z) (q := 3) hw (by omega)
  intro y hy
  simp only [flw, List.mem_cons, List.not_mem_nil, or_false] at hy
  rcases hy with rfl | rfl | rfl | rfl <;> omega
def flws (xs : List Int) (b d wd : Int) : Nat → List Int
  | 0 => []
  | k + 1 => flws xs b d wd k ++ if 0 < thAt xs k then flw xs b d wd k else []
theorem flws_bd {xs : List Int} {b d wd : Int} (hv : vpat xs = true) (hb : 2 ≤ b ∧ b ≤ 30) (hd : 1 ≤ d ∧ d ≤ 2 * b) (hw : 0 ≤ wd ∧ wd ≤ 16) (k : Nat) (hk : k ≤ 200) : ∀ y ∈ flws xs b d wd k, -9223372036854775808 ≤ y ∧ y ≤ 9223372036854775807 := by
  induction k with
  | zero => intro y hy; cases hy
  | succ k ih =>
    intro y hy
    simp only [flws, List.mem_append] at hy
    rcases hy with hy | hy
    · exact ih (by omega) y hy
    · split at hy
      · exact flw_bd hv hb hd hw (by omega) y hy
      · cases hy
/-- The code of FlightsOf. -/
def fcd (xs : List Int) (b d wd t : Int) : Int := tcd (vpat xs) (vtim b d && (btw t 0 200 && btw wd 0 16)) (fits xs b d && fl40 xs b d)
/-- What FlightsOf gives. -/
def flon (xs : List Int) (b d wd t : Int) : Nat := if fcd xs b d wd t = 0 then hcn xs t.toNat else 0
def flos (xs : List Int) (b d wd t : Int) : List Int := if fcd xs b d wd t = 0 then flws xs b d wd t.toNat else []
theorem fcd_zero {xs : List Int} {b d wd t : Int} (h : fcd xs b d wd t = 0) : vpat xs = true ∧ ((2 ≤ b ∧ b ≤ 30) ∧ (1 ≤ d ∧ d ≤ 2 * b)) ∧ (0 ≤ t ∧ t ≤ 200) ∧ (0 ≤ wd ∧ wd ≤ 16) := by
  obtain ⟨hv, htt, _⟩ := tcd_zero h
  rw [Bool.and_eq_true, Bool.and_eq_true] at htt
  exact ⟨hv, vtim_iff.1 htt.1, btw_iff.1 htt.2.1, btw_iff.1 htt.2.2⟩
theorem flos_bd (xs : List Int) (b d wd t : Int) : flon xs b d wd t ≤ 1048576 ∧ ∀ y ∈ flos xs b d wd t, -9223372036854775808 ≤ y ∧ y ≤ 9223372036854775807 := by
  unfold flon flos
  split
  · rename_i hr
    obtain ⟨hv, hb, ht, hw⟩ := fcd_zero hr
    have := hcn_le xs t.toNat
    exact ⟨by omega, flws_bd hv hb.1 hb.2 hw _ (by omega)⟩
  · exact ⟨by omega, by simp⟩
theorem elFlight : ElInfo Try.prog 60 4 := elInfo (z := .agg #[.int .i64 0, .int .i64 0, .int .i64 0, .int .i64 0]) (by kernel_rfl) rfl
set_option maxHeartbeats 2000000 in
set_option maxRecDepth 100000 in
theorem specFlightsOf_yes (A : Option Addr) (n c : Nat) (xs : List Int) (b d wd : Int) (t : Nat) (w : World) (hI : Ints w A n xs) (ht : t ≤ 200) (hr : fcd xs b d wd t = 0) :
    Calls Try.prog 21 #[.slice A n c, .agg #[.int .i64 b, .int .i64 d], .int .i64 wd, .int .i64 t] w (RetRow w 60 4 (hcn xs t) (flws xs b d wd t) 0) := by
  obtain ⟨hv, ⟨hb, hd⟩, htt, hw⟩ := fcd_zero hr
  have HV := Lib.hid hv
  have HC := Lib.hid hr
  clear hv hr htt
  go_enter Try.func21, Try.ntmps21
  go_wp2
  go_region_held3 (fun wz => wz.cell? ⟨w.heap.size, 0, none⟩ = some (.int .i64 b) ∧ wz.cell? ⟨w.heap.size, 1, none⟩ = some (.int .i64 d)) (go_keep)
    (first | (go_at_call 27; (with_reducible refine (l00In_any _ _ _ _).mono ?_); rintro e w' ⟨rfl, rfl⟩) | (go_at_call 36; (with_reducible refine (l16Ask_any _ _ _ xs b d wd _ _ (hI.ext (by with_reducible (repeat (first | exact Ext.refl _ | apply Ext.drewN | apply Ext.drew | apply Ext.alloc | (refine Ext.set ?_ (by first | (simp; done) | (simp; omega) | omega) _) | (refine Ext.trans ?_ (by assumption))))))).mono ?_); rw [show tcd (vpat xs) (vtim b d && (btw (t : Int) 0 200 && btw wd 0 16)) (fits xs b d && fl40 xs b d) = 0 from HC.out]; rintro e w1 ⟨rfl, hx⟩; have hz := hx.size; (try simp at hz); (try (have hq0 : w.heap.size < w1.heap.size := by omega)); (try (have hc0 : ∀ o, w1.cell? ⟨w.heap.size, o, none⟩ = _ := fun o => hx.cells.1 _ o (by first | (simp; done) | (simp; omega) | omega)))))
  go_wp2
  have cb := hc0 0
  have cd := hc0 1
  simp at cb cd
  clear hc0
  have hxw : Ext w w1 := (by with_reducible (repeat (first | exact Ext.refl _ | apply Ext.drewN | apply Ext.drew | apply Ext.alloc | (refine Ext.set ?_ (by first | (simp; done) | (simp; omega) | omega) _) | (refine Ext.trans ?_ (by assumption)))))
  go_loopw [11, 12] (fun v i wr => ∃ k : Nat, k ≤ t ∧ i = .int .i64 k ∧ OwnR 60 4 w1 wr v (hcn xs k) (flws xs b d wd k)) (fun _ i _ => t - (intOf i).toNat)
  case atStart => exact ⟨0, Nat.zero_le _, rfl, ownR_empty (Ext.refl _) _ _⟩
  case round =>
    obtain ⟨k, hk, rfl, hown⟩ := hrel
    by_cases hlt : k < t
    · have hcb := (hown.ext.cells.1 w.heap.size 0 hq0).trans cb
      have hcd := (hown.ext.cells.1 w.heap.size 1 hq0).trans cd
      have hxr : Ext w wr := hxw.trans hown.ext
      have hcn1 := hcn_le xs k
      by_cases h0 : 0 < thAt xs k
      · have HS : Hid (flws xs b d wd (k + 1) = flws xs b d wd k ++ flw xs b d wd k) := by show _ = _; simp only [flws]; rw [if_pos h0]
        have HN : Hid (hcn xs (k + 1) = hcn xs k + 1) := by show _ = _; simp only [hcn]; rw [if_pos h0]
        go_wp2_with (first | (go_at_call 28; (with_reducible refine (l02At_any _ _ _ xs _ _ (hI.ext (by with_reducible (repeat (first | exact Ext.refl _ | apply Ext.drewN | apply Ext.drew | apply Ext.alloc | (refine Ext.set ?_ (by first | (simp; done) | (simp; omega) | omega) _) | (refine Ext.trans ?_ (by assumption)))))) HV.out).mono ?_); rintro e w' ⟨rfl, rfl⟩) | (go_at_call 37; (with_reducible refine (l16Of_any _ _ _ xs b d wd _ _ (hI.ext (by with_reducible (repeat (first | exact Ext.refl _ | apply Ext.drewN | apply Ext.drew | apply Ext.alloc | (refine Ext.set ?_ (by first | (simp; done) | (simp; omega) | omega) _) | (refine Ext.trans ?_ (by assumption)))))) HV.out hb hd hw (by omega)).mono ?_); rintro e w2 ⟨rfl, hx2⟩) | (at_builtin; refine appM elFlight (by omega) rfl _ _ Try.underlying41 rfl rfl (hown.trans (by with_reducible (repeat (first | exact Ext.refl _ | apply Ext.drewN | apply Ext.drew | apply Ext.alloc | (refine Ext.set ?_ (by first | (simp; done) | (simp; omega) | omega) _) | (refine Ext.trans ?_ (by assumption)))))) (by omega) rfl (heap_alloc_new _ _) (ys := flw xs b d wd k) (by rfl) (by rfl) ?_; intro v' w3 hown'))
        go_roundw
        case rel => exact ⟨k + 1, by omega, by go_num, by rw [HS.out, HN.out]; exact hown'⟩
        case measure => simp [intOf]; omega
      · have HS : Hid (flws xs b d wd (k + 1) = flws xs b d wd k) := by show _ = _; simp only [flws]; rw [if_neg h0, List.append_nil]
        have HN : Hid (hcn xs (k + 1) = hcn xs k) := by show _ = _; simp only [hcn]; rw [if_neg h0]; omega
        go_wp2_with (go_at_call 28; (with_reducible refine (l02At_any _ _ _ xs _ _ (hI.ext (by with_reducible (repeat (first | exact Ext.refl _ | apply Ext.drewN | apply Ext.drew | apply Ext.alloc | (refine Ext.set ?_ (by first | (simp; done) | (simp; omega) | omega) _) | (refine Ext.trans ?_ (by assumption)))))) HV.out).mono ?_); rintro e w' ⟨rfl, rfl⟩)
        go_roundw
        case rel => exact ⟨k + 1, by omega, by go_num, by rw [HS.out, HN.out]; exact hown⟩
        case measure => simp [intOf]; omega
    · obtain rfl : k = t := by omega
      obtain ⟨A1, c1, rfl⟩ := hown.forms
      have HT : Hid (RetRow w 60 4 (hcn xs k) (flws xs b d wd k) 0 (.returned (.tuple #[.slice A1 (hcn xs k) c1, .int .i64 0])) wr) := RetRow.of_ownR rfl (hown.rebase hxw)
      go_wp2
      go_ret2
      exact HT.out
theorem specFlightsOf_no (A : Option Addr) (n c : Nat) (xs : List Int) (b d wd t : Int) (w : World) (hI : Ints w A n xs) (r : Int) (hr : Hid (fcd xs b d wd t = r)) (h0 : (r != 0) = true) :
    Calls Try.prog 21 #[.slice A n c, .agg #[.int .i64 b, .int .i64 d], .int .i64 wd, .int .i64 t] w (RetRow w 60 4 0 [] r) := by
  go_enter Try.func21, Try.ntmps21
  go_wp2
  go_region_held3 (fun wz => wz.cell? ⟨w.heap.size, 0, none⟩ = some (.int .i64 b) ∧ wz.cell? ⟨w.heap.size, 1, none⟩ = some (.int .i64 d)) (go_keep)
    (first | (go_at_call 27; (with_reducible refine (l00In_any _ _ _ _).mono ?_); rintro e w' ⟨rfl, rfl⟩) | (go_at_call 36; (with_reducible refine (l16Ask_any _ _ _ xs b d wd _ _ (hI.ext (by with_reducible (repeat (first | exact Ext.refl _ | apply Ext.drewN | apply Ext.drew | apply Ext.alloc | (refine Ext.set ?_ (by first | (simp; done) | (simp; omega) | omega) _) | (refine Ext.trans ?_ (by assumption))))))).mono ?_); rw [show tcd (vpat xs) (vtim b d && (btw t 0 200 && btw wd 0 16)) (fits xs b d && fl40 xs b d) = r from hr.out]; rintro e w1 ⟨rfl, hx⟩; have hz := hx.size; (try simp at hz); (try (have hq0 : w.heap.size < w1.heap.size := by omega)); (try (have hc0 : ∀ o, w1.cell? ⟨w.heap.size, o, none⟩ = _ := fun o => hx.cells.1 _ o (by first | (simp; done) | (simp; omega) | omega)))))
  go_wp2
  go_ret2
  exact RetRow.of_nil rfl (by with_reducible (repeat (first | exact Ext.refl _ | apply Ext.drewN | apply Ext.drew | apply Ext.alloc | (refine Ext.set ?_ (by first | (simp; done) | (simp; omega) | omega) _) | (refine Ext.trans ?_ (by assumption)))))
theorem specFlightsOf_ret (A : Option Addr) (n c : Nat) (xs : List Int) (b d wd t : Int) (w : World) (hI : Ints w A n xs) :
    Calls Try.prog 21 #[.slice A n c, .agg #[.int .i64 b, .int .i64 d], .int .i64 wd, .int .i64 t] w (RetRow w 60 4 (flon xs b d wd t) (flos xs b d wd t) (fcd xs b d wd t)) := by
  unfold flon flos
  by_cases hr : fcd xs b d wd t = 0
  · rw [if_pos hr, if_pos hr, hr]
    obtain ⟨_, _, ht, _⟩ := fcd_zero hr
    obtain ⟨k, rfl⟩ : ∃ k : Nat, t = k := ⟨t.toNat, by omega⟩
    rw [Int.toNat_natCast]
    exact specFlightsOf_yes A n c xs b d wd k w hI (by omega) hr
  · rw [if_neg hr, if_neg hr]
    exact specFlightsOf_no A n c xs b d wd t w hI _ rfl (by simpa using hr)
set_option maxHeartbeats 2000000 in
set_option maxRecDepth 100000 in
theorem flightsOf_any (A : Option Addr) (n c : Nat) (xs : List Int) (b d wd : Int) (t : Nat) (w : World) (hI : Ints w A n xs) (ht : t ≤ 200) (hr : fcd xs b d wd t = 0) :
    Calls Try.prog 39 #[.slice A n c, .agg #[.int .i64 b, .int .i64 d], .int .i64 wd, .int .i64 t] w fun e w' => ∃ A1 c1, e = .returned (.slice A1 (hcn xs t) c1) ∧ OwnR 60 4 w w' (.slice A1 (hcn xs t) c1) (hcn xs t) (flws xs b d wd t) := by
  obtain ⟨hv, ⟨hb, hd⟩, htt, hw⟩ := fcd_zero hr
  have HV := Lib.hid hv
  clear hv hr htt
  have HT0 : Hid (∀ (wr : World) (v : Value), OwnR 60 4 w wr v (hcn xs t) (flws xs b d wd t) → ∃ A1 c1, Ending.returned v = .returned (.slice A1 (hcn xs t) c1) ∧ OwnR 60 4 w wr (.slice A1 (hcn xs t) c1) (hcn xs t) (flws xs b d wd t)) := by
    intro wr v ho
    obtain ⟨A1, c1, rfl⟩ := ho.forms
    exact ⟨A1, c1, rfl, ho⟩
  go_enter Try.func39, Try.ntmps39
  go_wp2
  have hxw : Ext w (w.alloc (.cells #[.int .i64 b, .int .i64 d] 28)) := (by with_reducible (repeat (first | exact Ext.refl _ | apply Ext.drewN | apply Ext.drew | apply Ext.alloc | (refine Ext.set ?_ (by first | (simp; done) | (simp; omega) | omega) _) | (refine Ext.trans ?_ (by assumption)))))
  have cb : (w.alloc (.cells #[.int .i64 b, .int .i64 d] 28)).cell? ⟨w.heap.size, 0, none⟩ = some (.int .i64 b) := by simp
  have cd : (w.alloc (.cells #[.int .i64 b, .int .i64 d] 28)).cell? ⟨w.heap.size, 1, none⟩ = some (.int .i64 d) := by simp
  have hq0 : w.heap.size < (w.alloc (.cells #[.int .i64 b, .int .i64 d] 28)).heap.size := by simp
  go_loopw [9, 13, 10] (fun v i _ wr => ∃ k : Nat, k ≤ t ∧ i = .int .i64 k ∧ OwnR 60 4 (w.alloc (.cells #[.int .i64 b, .int .i64 d] 28)) wr v (hcn xs k) (flws xs b d wd k)) (fun _ i _ _ => t - (intOf i).toNat)
  case atStart => exact ⟨0, Nat.zero_le _, rfl, by have h := ownR_empty (Ext.refl (w.alloc (.cells #[.int .i64 b, .int .i64 d] 28))) 60 4; simp at h; exact h⟩
  case round =>
    obtain ⟨k, hk, rfl, hown⟩ := hrel
    by_cases hlt : k < t
    · have hcb := (hown.ext.cells.1 w.heap.size 0 hq0).trans cb
      have hcd := (hown.ext.cells.1 w.heap.size 1 hq0).trans cd
      have hxr : Ext w wr := hxw.trans hown.ext
      have hcn1 := hcn_le xs k
      by_cases h0 : 0 < thAt xs k
      · have HS : Hid (flws xs b d wd (k + 1) = flws xs b d wd k ++ flw xs b d wd k) := by show _ = _; simp only [flws]; rw [if_pos h0]
        have HN : Hid (hcn xs (k + 1) = hcn xs k + 1) := by show _ = _; simp only [hcn]; rw [if_pos h0]
        go_wp2_with (first | (go_at_call 33; (with_reducible refine (throwAt_any _ _ _ xs _ _ (hI.ext (by with_reducible (repeat (first | exact Ext.refl _ | apply Ext.drewN | apply Ext.drew | apply Ext.alloc | (refine Ext.set ?_ (by first | (simp; done) | (simp; omega) | omega) _) | (refine Ext.trans ?_ (by assumption)))))) HV.out).mono ?_); rintro e w' ⟨rfl, rfl⟩) | (go_at_call 53; (with_reducible refine (flightOf_any _ _ _ xs b d wd _ _ (hI.ext (by with_reducible (repeat (first | exact Ext.refl _ | apply Ext.drewN | apply Ext.drew | apply Ext.alloc | (refine Ext.set ?_ (by first | (simp; done) | (simp; omega) | omega) _) | (refine Ext.trans ?_ (by assumption)))))) HV.out hb hd hw (by omega)).mono ?_); rintro e w2 ⟨rfl, hx2⟩) | (at_builtin; refine appM elFlight (by omega) rfl _ _ Try.underlying41 rfl rfl (hown.trans (by with_reducible (repeat (first | exact Ext.refl _ | apply Ext.drewN | apply Ext.drew | apply Ext.alloc | (refine Ext.set ?_ (by first | (simp; done) | (simp; omega) | omega) _) | (refine Ext.trans ?_ (by assumption)))))) (by omega) rfl (heap_alloc_new _ _) (ys := flw xs b d wd k) (by rfl) (by rfl) ?_; intro v' w3 hown'))
        go_roundw
        case rel => exact ⟨k + 1, by omega, by go_num, by rw [HS.out, HN.out]; exact hown'⟩
        case measure => simp [intOf]; omega
      · have HS : Hid (flws xs b d wd (k + 1) = flws xs b d wd k) := by show _ = _; simp only [flws]; rw [if_neg h0, List.append_nil]
        have HN : Hid (hcn xs (k + 1) = hcn xs k) := by show _ = _; simp only [hcn]; rw [if_neg h0]; omega
        go_wp2_with (go_at_call 33; (with_reducible refine (throwAt_any _ _ _ xs _ _ (hI.ext (by with_reducible (repeat (first | exact Ext.refl _ | apply Ext.drewN | apply Ext.drew | apply Ext.alloc | (refine Ext.set ?_ (by first | (simp; done) | (simp; omega) | omega) _) | (refine Ext.trans ?_ (by assumption)))))) HV.out).mono ?_); rintro e w' ⟨rfl, rfl⟩)
        go_roundw
        case rel => exact ⟨k + 1, by omega, by go_num, by rw [HS.out, HN.out]; exact hown⟩
        case measure => simp [intOf]; omega
    · obtain rfl : k = t := by omega
      go_wp2
      go_ret
      exact HT0.out _ _ (hown.rebase hxw)
theorem implFlightsOf_yes (A : Option Addr) (n c : Nat) (xs : List Int) (b d wd : Int) (t : Nat) (w : World) (hI : Ints w A n xs) (ht : t ≤ 200) (hr : fcd xs b d wd t = 0) :
    Calls Try.prog 22 #[.slice A n c, .agg #[.int .i64 b, .int .i64 d], .int .i64 wd, .int .i64 t] w (RetRow w 60 4 (hcn xs t) (flws xs b d wd t) 0) := by
  have HC := Lib.hid hr
  clear hr
  go_enter Try.func22, Try.ntmps22
  go_wp2_with (first | (go_at_call 38; (with_reducible refine (flightsCode_any _ _ _ xs b d wd _ _ (hI.ext (by with_reducible (repeat (first | exact Ext.refl _ | apply Ext.drewN | apply Ext.drew | apply Ext.alloc | (refine Ext.set ?_ (by first | (simp; done) | (simp; omega) | omega) _) | (refine Ext.trans ?_ (by assumption))))))).mono ?_); rw [show tcd (vpat xs) (vtim b d && (btw (t : Int) 0 200 && btw wd 0 16)) (fits xs b d && fl40 xs b d) = 0 from HC.out]; rintro e w1 ⟨rfl, hx⟩; have hz := hx.size; (try simp at hz); (try (have hq0 : w.heap.size < w1.heap.size := by omega)); (try (have hc0 : ∀ o, w1.cell? ⟨w.heap.size, o, none⟩ = _ := fun o => hx.cells.1 _ o (by first | (simp; done) | (simp; omega) | omega)))) | (go_at_call 39; (with_reducible refine (flightsOf_any _ _ _ xs b d wd t _ (hI.ext (by with_reducible (repeat (first | exact Ext.refl _ | apply Ext.drewN | apply Ext.drew | apply Ext.alloc | (refine Ext.set ?_ (by first | (simp; done) | (simp; omega) | omega) _) | (refine Ext.trans ?_ (by assumption)))))) ht HC.out).mono ?_); rintro e w2 ⟨A1, c1, rfl, ho⟩))
  go_ret2
  exact RetRow.of_ownR rfl (ho.rebase (by with_reducible (repeat (first | exact Ext.refl _ | apply Ext.drewN | apply Ext.drew | apply Ext.alloc | (refine Ext.set ?_ (by first | (simp; done) | (simp; omega) | omega) _) | (refine Ext.trans ?_ (by assumption))))))
theorem implFlightsOf_no (A : Option Addr) (n c : Nat) (xs : List Int) (b d wd t : Int) (w : World) (hI : Ints w A n xs) (r : Int) (hr : Hid (fcd xs b d wd t = r)) (h0 : (r != 0) = true) :
    Calls Try.prog 22 #[.slice A n c, .agg #[.int .i64 b, .int .i64 d], .int .i64 wd, .int .i64 t] w (RetRow w 60 4 0 [] r) := by
  go_enter Try.func22, Try.ntmps22
  go_wp2_with (first | (go_at_call 38; (with_reducible refine (flightsCode_any _ _ _ xs b d wd _ _ (hI.ext (by with_reducible (repeat (first | exact Ext.refl _ | apply Ext.drewN | apply Ext.drew | apply Ext.alloc | (refine Ext.set ?_ (by first | (simp; done) | (simp; omega) | omega) _) | (refine Ext.trans ?_ (by assumption))))))).mono ?_); rw [show tcd (vpat xs) (vtim b d && (btw t 0 200 && btw wd 0 16)) (fits xs b d && fl40 xs b d) = r from hr.out]; rintro e w1 ⟨rfl, hx⟩; have hz := hx.size; (try simp at hz); (try (have hq0 : w.heap.size < w1.heap.size := by omega)); (try (have hc0 : ∀ o, w1.cell? ⟨w.heap.size, o, none⟩ = _ := fun o => hx.cells.1 _ o (by first | (simp; done) | (simp; omega) | omega)))))
  go_ret2
  exact RetRow.of_nil rfl (by with_reducible (repeat (first | exact Ext.refl _ | apply Ext.drewN | apply Ext.drew | apply Ext.alloc | (refine Ext.set ?_ (by first | (simp; done) | (simp; omega) | omega) _) | (refine Ext.trans ?_ (by assumption)))))
theorem implFlightsOf_ret (A : Option Addr) (n c : Nat) (xs : List Int) (b d wd t : Int) (w : World) (hI : Ints w A n xs) :
    Calls Try.prog 22 #[.slice A n c, .agg #[.int .i64 b, .int .i64 d], .int .i64 wd, .int .i64 t] w (RetRow w 60 4 (flon xs b d wd t) (flos xs b d wd t) (fcd xs b d wd t)) := by
  unfold flon flos
  by_cases hr : fcd xs b d wd t = 0
  · rw [if_pos hr, if_pos hr, hr]
    obtain ⟨_, _, ht, _⟩ := fcd_zero hr
    obtain ⟨k, rfl⟩ : ∃ k : Nat, t = k := ⟨t.toNat, by omega⟩
    rw [Int.toNat_natCast]
    exact implFlightsOf_yes A n c xs b d wd k w hI (by omega) hr
  · rw [if_neg hr, if_neg hr]
    exact implFlightsOf_no A n c xs b d wd t w hI _ rfl (by simpa using hr)
end Go.Proofs.Ytklkbldmhhkcjaa
