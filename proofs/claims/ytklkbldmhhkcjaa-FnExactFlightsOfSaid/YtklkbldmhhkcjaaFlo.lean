/- The flights of the throws of some beats: contracts of FlightsOf and of its codes. No condition but the stated bounds. -/
import Derived.Test.YtklkbldmhhkcjaaHld
namespace Go.Proofs.Ytklkbldmhhkcjaa
set_option linter.unusedVariables false
set_option linter.unusedSimpArgs false
open Go.RowKit

/-- The highest throw flies for at most 40 ticks. -/
def fl40 (xs : List Int) (b d : Int) : Bool := decide (hig xs xs.length * b - d ≤ 40)
theorem tcd_and (p t f g : Bool) : tcd p t (f && g) = if tcd p t f = 0 then (if g then 0 else 6) else tcd p t f := by
  cases p <;> cases t <;> cases f <;> cases g <;> rfl
theorem tcd_le (p t f : Bool) : 0 ≤ tcd p t f ∧ tcd p t f ≤ 6 := by
  cases p <;> cases t <;> cases f <;> decide
/-- The place of a hand. -/
def hwd (z wd q : Int) : Int := if z % 2 = 0 then -(q * wd) else q * wd
/-- The flight of the throw at a beat. -/
def flw (xs : List Int) (b d wd z : Int) : List Int := [hwd z wd 1, hwd (z + thAt xs z) wd 3, z * b, (z + thAt xs z) * b - d]
theorem hwd_bd {z wd q : Int} (hw : 0 ≤ wd ∧ wd ≤ 16) (hq : 0 ≤ q ∧ q ≤ 3) : -48 ≤ hwd z wd q ∧ hwd z wd q ≤ 48 := by
  have h := mul_bd (a := q) (b := wd) (A := 3) (B := 16) (by omega) (by omega)
  unfold hwd
  split <;> omega
theorem l16Hand_any (z wd q : Int) (w : World) (hw : 0 ≤ wd ∧ wd ≤ 16) (hq : 0 ≤ q ∧ q ≤ 3) :
    Calls Try.prog 51 #[.int .i64 z, .int .i64 wd, .int .i64 q] w fun e w' => e = .returned (.int .i64 (hwd z wd q)) ∧ w = w' := by
  have h := mul_bd (a := q) (b := wd) (A := 3) (B := 16) (by omega) (by omega)
  have h' := mul_bd (a := -q) (b := wd) (A := 3) (B := 16) (by omega) (by omega)
  by_cases h0 : z % 2 = 0
  · have HR : Hid (-q * wd = hwd z wd q) := by show _ = _; unfold hwd; rw [if_pos h0, Int.neg_mul]
    have H0 := Lib.hid h0
    clear h0
    go_enter Try.func51, Try.ntmps51
    go_wp2_with (first | (go_at_call 32; (with_reducible refine (l02Mod_is _ _ 0 _ (by omega) (by omega) H0.out).mono ?_); rintro e w' ⟨rfl, rfl⟩))
    go_ret
    exact ⟨ret_int HR.out, rfl⟩
  · have HR : Hid (q * wd = hwd z wd q) := by show _ = _; unfold hwd; rw [if_neg h0]
    have H0 : Hid (z % 2 = 1) := by show _ = _; omega
    clear h0
    go_enter Try.func51, Try.ntmps51
    go_wp2_with (first | (go_at_call 32; (with_reducible refine (l02Mod_is _ _ 1 _ (by omega) (by omega) H0.out).mono ?_); rintro e w' ⟨rfl, rfl⟩))
    go_ret
    exact ⟨ret_int HR.out, rfl⟩
theorem side_any (z wd q x : Int) (w : World) (hx : x = q * wd) (hb : 0 ≤ x ∧ x ≤ 1000) :
    Calls Try.prog 59 #[.int .i64 (z % 2), .int .i64 x] w fun e w' => e = .returned (.int .i64 (hwd z wd q)) ∧ w = w' := by
  have HX := Lib.hid hx
  clear hx
  by_cases h0 : z % 2 = 0
  · have HR : Hid (-x = hwd z wd q) := by show _ = _; unfold hwd; rw [if_pos h0, HX.out]
    rw [h0]
    go_enter Try.func59, Try.ntmps59
    go_wp2
    go_ret
    exact ⟨ret_int HR.out, rfl⟩
  · have HR : Hid (x = hwd z wd q) := by show _ = _; unfold hwd; rw [if_neg h0, HX.out]
    have h1 : z % 2 = 1 := by omega
    rw [h1]
    go_enter Try.func59, Try.ntmps59
    go_wp2
    go_ret
    exact ⟨ret_int HR.out, rfl⟩
set_option maxHeartbeats 1000000 in
theorem l16Of_any (A : Option Addr) (n c : Nat) (xs : List Int) (b d wd z : Int) (w : World) (hI : Ints w A n xs) (hv : vpat xs = true) (hb : 2 ≤ b ∧ b ≤ 30) (hd : 1 ≤ d ∧ d ≤ 2 * b) (hw : 0 ≤ wd ∧ wd ≤ 16) (hz : 0 ≤ z ∧ z ≤ 200) :
    Calls Try.prog 37 #[.slice A n c, .agg #[.int .i64 b, .int .i64 d], .int .i64 wd, .int .i64 z] w fun e w' => e = .returned (.agg #[.int .i64 (hwd z wd 1), .int .i64 (hwd (z + thAt xs z) wd 3), .int .i64 (z * b), .int .i64 ((z + thAt xs z) * b - d)]) ∧ Ext w w' := by
  have ht := thAt_bd hv z
  have HV := Lib.hid hv
  clear hv
  have hp1 := mul_bd (a := z) (b := b) (A := 200) (B := 30) (by omega) (by omega)
  have hp2 := mul_bd (a := z + thAt xs z) (b := b) (A := 215) (B := 30) (by omega) (by omega)
  have e0 : IntKind.i64.wrap (z + thAt xs z) = z + thAt xs z := IntWalk.i64_in _ (by omega)
  have e1 : IntKind.i64.wrap (z * b) = z * b := IntWalk.i64_in _ (by omega)
  have e2 : IntKind.i64.wrap ((z + thAt xs z) * b) = (z + thAt xs z) * b := IntWalk.i64_in _ (by omega)
  have e3 : IntKind.i64.wrap ((z + thAt xs z) * b - d) = (z + thAt xs z) * b - d := IntWalk.i64_in _ (by omega)
  go_enter Try.func37, Try.ntmps37
  go_wp2_with (first | (go_at_call 28; (with_reducible refine (l02At_any _ _ _ xs _ _ (hI.ext (by with_reducible (repeat (first | exact Ext.refl _ | apply Ext.drewN | apply Ext.drew | apply Ext.alloc | (refine Ext.set ?_ (by first | (simp; done) | (simp; omega) | omega) _) | (refine Ext.trans ?_ (by assumption)))))) HV.out).mono ?_); rintro e w' ⟨rfl, rfl⟩))
  go_region_held3 (fun wz => wz.cell? ⟨w.heap.size, 0, none⟩ = some (.int .i64 b) ∧ wz.cell? ⟨w.heap.size, 1, none⟩ = some (.int .i64 d)) (go_keep)
    (first | (go_at_call 51; (with_reducible refine (l16Hand_any _ _ _ _ hw (by omega)).mono ?_); rintro e w' ⟨rfl, rfl⟩))
  go_wp2
  exact bodyPost_ret (v := .agg #[.int .i64 (hwd z wd 1), .int .i64 (hwd (z + thAt xs z) wd 3), .int .i64 (z * b), .int .i64 ((z + thAt xs z) * b - d)]) (by simp [results, Try.results37, go_sem, *]) rfl ⟨rfl, (by with_reducible (repeat (first | exact Ext.refl _ | apply Ext.drewN | apply Ext.drew | apply Ext.alloc | (refine Ext.set ?_ (by first | (simp; done) | (simp; omega) | omega) _) | (refine Ext.trans ?_ (by assumption)))))⟩
set_option maxHeartbeats 1000000 in
theorem flightOf_any (A : Option Addr) (n c : Nat) (xs : List Int) (b d wd z : Int) (w : World) (hI : Ints w A n xs) (hv : vpat xs = true) (hb : 2 ≤ b ∧ b ≤ 30) (hd : 1 ≤ d ∧ d ≤ 2 * b) (hw : 0 ≤ wd ∧ wd ≤ 16) (hz : 0 ≤ z ∧ z ≤ 200) :
    Calls Try.prog 53 #[.slice A n c, .agg #[.int .i64 b, .int .i64 d], .int .i64 wd, .int .i64 z] w fun e w' => e = .returned (.agg #[.int .i64 (hwd z wd 1), .int .i64 (hwd (z + thAt xs z) wd 3), .int .i64 (z * b), .int .i64 ((z + thAt xs z) * b - d)]) ∧ Ext w w' := by
  have ht := thAt_bd hv z
  have HV := Lib.hid hv
  clear hv
  have hp1 := mul_bd (a := z) (b := b) (A := 200) (B := 30) (by omega) (by omega)
  have hp2 := mul_bd (a := z + thAt xs z) (b := b) (A := 215) (B := 30) (by omega) (by omega)
  have e0 : IntKind.i64.wrap (z + thAt xs z) = z + thAt xs z := IntWalk.i64_in _ (by omega)
  have e1 : IntKind.i64.wrap (z * b) = z * b := IntWalk.i64_in _ (by omega)
  have e2 : IntKind.i64.wrap ((z + thAt xs z) * b) = (z + thAt xs z) * b := IntWalk.i64_in _ (by omega)
  have e3 : IntKind.i64.wrap ((z + thAt xs z) * b - d) = (z + thAt xs z) * b - d := IntWalk.i64_in _ (by omega)
  have e4 : IntKind.i64.wrap (3 * wd) = 3 * wd := IntWalk.i64_in _ (by omega)
  have k1 : wd = 1 * wd := by omega
  have K1 := Lib.hid k1
  clear k1
  have b1 : 0 ≤ wd ∧ wd ≤ 1000 := by omega
  have b3 : 0 ≤ 3 * wd ∧ 3 * wd ≤ 1000 := by omega
  go_enter Try.func53, Try.ntmps53
  go_wp2_with (first | (go_at_call 33; (with_reducible refine (throwAt_any _ _ _ xs _ _ (hI.ext (by with_reducible (repeat (first | exact Ext.refl _ | apply Ext.drewN | apply Ext.drew | apply Ext.alloc | (refine Ext.set ?_ (by first | (simp; done) | (simp; omega) | omega) _) | (refine Ext.trans ?_ (by assumption)))))) HV.out).mono ?_); rintro e w' ⟨rfl, rfl⟩))
  go_region_held3 (fun wz => wz.cell? ⟨w.heap.size, 0, none⟩ = some (.int .i64 b) ∧ wz.cell? ⟨w.heap.size, 1, none⟩ = some (.int .i64 d)) (go_keep)
    (first | (go_at_call 34; (with_reducible refine (implHandOf_any _ _).mono ?_); rintro e w' ⟨rfl, rfl⟩) | (go_at_call 59; (with_reducible refine (side_any z wd 1 _ _ K1.out b1).mono ?_); rintro e w' ⟨rfl, rfl⟩) | (go_at_call 59; (with_reducible refine (side_any (z + thAt xs z) wd 3 _ _ rfl b3).mono ?_); rintro e w' ⟨rfl, rfl⟩))
  go_wp2
  exact bodyPost_ret (v := .agg #[.int .i64 (hwd z wd 1), .int .i64 (hwd (z + thAt xs z) wd 3), .int .i64 (z * b), .int .i64 ((z + thAt xs z) * b - d)]) (by simp [results, Try.results53, go_sem, *]) rfl ⟨rfl, (by with_reducible (repeat (first | exact Ext.refl _ | apply Ext.drewN | apply Ext.drew | apply Ext.alloc | (refine Ext.set ?_ (by first | (simp; done) | (simp; omega) | omega) _) | (refine Ext.trans ?_ (by assumption)))))⟩
set_option maxHeartbeats 1000000 in
theorem l16Ask_any (A : Option Addr) (n c : Nat) (xs : List Int) (b d wd : Int) (i : Bool) (w : World) (hI : Ints w A n xs) :
    Calls Try.prog 36 #[.slice A n c, .agg #[.int .i64 b, .int .i64 d], .int .i64 wd, .bool i] w fun e w' => e = .returned (.int .i64 (tcd (vpat xs) (vtim b d && (i && btw wd 0 16)) (fits xs b d && fl40 xs b d))) ∧ Ext w w' := by
  rw [tcd_and]
  by_cases hr : tcd (vpat xs) (vtim b d && (i && btw wd 0 16)) (fits xs b d) = 0
  · rw [if_pos hr]
    obtain ⟨hv, htt, hf⟩ := tcd_zero hr
    rw [Bool.and_eq_true, Bool.and_eq_true] at htt
    obtain ⟨htm, rfl, hwt⟩ := htt
    rw [Bool.true_and] at hr
    obtain ⟨hb, hd⟩ := vtim_iff.1 htm
    have hg := hig_bd (xs := xs) (k := n) (fun i hi => (thr_iff.1 (vpat_thr hv)).1 i (by rw [hI.len]; exact hi))
    have hp := mul_bd (a := hig xs n) (b := b) (A := 15) (B := 30) (by omega) (by omega)
    have e1 : IntKind.i64.wrap (hig xs n * b) = hig xs n * b := IntWalk.i64_in _ (by omega)
    have e2 : IntKind.i64.wrap (hig xs n * b - d) = hig xs n * b - d := IntWalk.i64_in _ (by omega)
    have HV := Lib.hid hv
    have HC := Lib.hid hr
    have HW := Lib.hid hwt
    clear hv hr hf htm hwt
    by_cases h40 : 40 < hig xs n * b - d
    · have HF : Hid (fl40 xs b d = false) := by show _ = _; unfold fl40; rw [hI.len]; exact decide_eq_false (by omega)
      rw [HF.out]
      go_enter Try.func36, Try.ntmps36
      go_wp2
      go_region_held3 (fun wz => wz.cell? ⟨w.heap.size, 0, none⟩ = some (.int .i64 b) ∧ wz.cell? ⟨w.heap.size, 1, none⟩ = some (.int .i64 d)) (go_keep)
        (first | (go_at_call 27; (with_reducible refine (l00In_is _ _ _ _ HW.out _).mono ?_); rintro e w' ⟨rfl, rfl⟩) | (go_at_call 26; (with_reducible refine (l15Code_is _ _ _ xs b d _ _ (hI.ext (by with_reducible (repeat (first | exact Ext.refl _ | apply Ext.drewN | apply Ext.drew | apply Ext.alloc | (refine Ext.set ?_ (by first | (simp; done) | (simp; omega) | omega) _) | (refine Ext.trans ?_ (by assumption)))))) 0 (by rw [← HW.out]; exact HC.out)).mono ?_); rintro e w1 ⟨rfl, hx⟩; have hz := hx.size; (try simp at hz); (try (have hq0 : w.heap.size < w1.heap.size := by omega)); (try (have hc0 : ∀ o, w1.cell? ⟨w.heap.size, o, none⟩ = _ := fun o => hx.cells.1 _ o (by first | (simp; done) | (simp; omega) | omega))); (try (have hf0 : ∀ o, w1.frozen? ⟨w.heap.size, o, none⟩ = _ := fun o => hx.cells.2 _ o (by first | (simp; done) | (simp; omega) | omega))); (try (have hq1 : w.heap.size + 1 < w1.heap.size := by omega)); (try (have hc1 : ∀ o, w1.cell? ⟨w.heap.size + 1, o, none⟩ = _ := fun o => hx.cells.1 _ o (by first | (simp; done) | (simp; omega) | omega))); (try (have hf1 : ∀ o, w1.frozen? ⟨w.heap.size + 1, o, none⟩ = _ := fun o => hx.cells.2 _ o (by first | (simp; done) | (simp; omega) | omega))); (try (have hq2 : w.heap.size + 2 < w1.heap.size := by omega)); (try (have hc2 : ∀ o, w1.cell? ⟨w.heap.size + 2, o, none⟩ = _ := fun o => hx.cells.1 _ o (by first | (simp; done) | (simp; omega) | omega))); (try (have hf2 : ∀ o, w1.frozen? ⟨w.heap.size + 2, o, none⟩ = _ := fun o => hx.cells.2 _ o (by first | (simp; done) | (simp; omega) | omega)))))
      go_wp2
      go_quiet ((go_at_call 50; first | with_reducible exact quiet_l (l02High_any _ _ _ xs _ (hI.ext (by with_reducible (repeat (first | exact Ext.refl _ | apply Ext.drewN | apply Ext.drew | apply Ext.alloc | (refine Ext.set ?_ (by first | (simp; done) | (simp; omega) | omega) _) | (refine Ext.trans ?_ (by assumption)))))) HV.out) | with_reducible exact quiet_la (l02High_any _ _ _ xs _ (hI.ext (by with_reducible (repeat (first | exact Ext.refl _ | apply Ext.drewN | apply Ext.drew | apply Ext.alloc | (refine Ext.set ?_ (by first | (simp; done) | (simp; omega) | omega) _) | (refine Ext.trans ?_ (by assumption)))))) HV.out)))
      go_wp2
      go_ret
      exact ⟨rfl, (by with_reducible (repeat (first | exact Ext.refl _ | apply Ext.drewN | apply Ext.drew | apply Ext.alloc | (refine Ext.set ?_ (by first | (simp; done) | (simp; omega) | omega) _) | (refine Ext.trans ?_ (by assumption)))))⟩
    · have HF : Hid (fl40 xs b d = true) := by show _ = _; unfold fl40; rw [hI.len]; exact decide_eq_true (by omega)
      rw [HF.out]
      go_enter Try.func36, Try.ntmps36
      go_wp2
      go_region_held3 (fun wz => wz.cell? ⟨w.heap.size, 0, none⟩ = some (.int .i64 b) ∧ wz.cell? ⟨w.heap.size, 1, none⟩ = some (.int .i64 d)) (go_keep)
        (first | (go_at_call 27; (with_reducible refine (l00In_is _ _ _ _ HW.out _).mono ?_); rintro e w' ⟨rfl, rfl⟩) | (go_at_call 26; (with_reducible refine (l15Code_is _ _ _ xs b d _ _ (hI.ext (by with_reducible (repeat (first | exact Ext.refl _ | apply Ext.drewN | apply Ext.drew | apply Ext.alloc | (refine Ext.set ?_ (by first | (simp; done) | (simp; omega) | omega) _) | (refine Ext.trans ?_ (by assumption)))))) 0 (by rw [← HW.out]; exact HC.out)).mono ?_); rintro e w1 ⟨rfl, hx⟩; have hz := hx.size; (try simp at hz); (try (have hq0 : w.heap.size < w1.heap.size := by omega)); (try (have hc0 : ∀ o, w1.cell? ⟨w.heap.size, o, none⟩ = _ := fun o => hx.cells.1 _ o (by first | (simp; done) | (simp; omega) | omega))); (try (have hf0 : ∀ o, w1.frozen? ⟨w.heap.size, o, none⟩ = _ := fun o => hx.cells.2 _ o (by first | (simp; done) | (simp; omega) | omega))); (try (have hq1 : w.heap.size + 1 < w1.heap.size := by omega)); (try (have hc1 : ∀ o, w1.cell? ⟨w.heap.size + 1, o, none⟩ = _ := fun o => hx.cells.1 _ o (by first | (simp; done) | (simp; omega) | omega))); (try (have hf1 : ∀ o, w1.frozen? ⟨w.heap.size + 1, o, none⟩ = _ := fun o => hx.cells.2 _ o (by first | (simp; done) | (simp; omega) | omega))); (try (have hq2 : w.heap.size + 2 < w1.heap.size := by omega)); (try (have hc2 : ∀ o, w1.cell? ⟨w.heap.size + 2, o, none⟩ = _ := fun o => hx.cells.1 _ o (by first | (simp; done) | (simp; omega) | omega))); (try (have hf2 : ∀ o, w1.frozen? ⟨w.heap.size + 2, o, none⟩ = _ := fun o => hx.cells.2 _ o (by first | (simp; done) | (simp; omega) | omega)))))
      go_wp2
      go_quiet ((go_at_call 50; first | with_reducible exact quiet_l (l02High_any _ _ _ xs _ (hI.ext (by with_reducible (repeat (first | exact Ext.refl _ | apply Ext.drewN | apply Ext.drew | apply Ext.alloc | (refine Ext.set ?_ (by first | (simp; done) | (simp; omega) | omega) _) | (refine Ext.trans ?_ (by assumption)))))) HV.out) | with_reducible exact quiet_la (l02High_any _ _ _ xs _ (hI.ext (by with_reducible (repeat (first | exact Ext.refl _ | apply Ext.drewN | apply Ext.drew | apply Ext.alloc | (refine Ext.set ?_ (by first | (simp; done) | (simp; omega) | omega) _) | (refine Ext.trans ?_ (by assumption)))))) HV.out)))
      go_wp2
      go_ret
      exact ⟨rfl, (by with_reducible (repeat (first | exact Ext.refl _ | apply Ext.drewN | apply Ext.drew | apply Ext.alloc | (refine Ext.set ?_ (by first | (simp; done) | (simp; omega) | omega) _) | (refine Ext.trans ?_ (by assumption)))))⟩
  · rw [if_neg hr]
    have h0 : (tcd (vpat xs) (vtim b d && (i && btw wd 0 16)) (fits xs b d) == 0) = false := by simpa using hr
    obtain ⟨r, hr⟩ : ∃ r, tcd (vpat xs) (vtim b d && (i && btw wd 0 16)) (fits xs b d) = r := ⟨_, rfl⟩
    rw [hr] at h0 ⊢
    have HC := Lib.hid hr
    clear hr
    cases i
    · have HC2 : Hid (tcd (vpat xs) (vtim b d && false) (fits xs b d) = r) := HC.out
      clear HC
      go_enter Try.func36, Try.ntmps36
      go_wp2
      refine wp_region_any (by kernel_rfl) ?_
      (try (change wpAny _ _ _ _ _ _ _ (World.drew _)))
      refine wpAny_take (i := 0) (v := ?_) rfl (by kernel_rfl) (by kernel_rfl) (by kernel_rfl) (fun _ _ _ h => h) (Or.inl ⟨by rfl, ?hy1⟩) ?_
      case hy1 => ((intro w; go_simp); (try with_reducible rfl))
      (try simp only [List.getElem_toArray, List.getElem_cons_succ, List.getElem_cons_zero, Act.put, List.setIfInBounds_toArray, List.set_cons_zero, List.set_cons_succ])
      refine wpAny_take (i := 2) (v := ?_) rfl (by kernel_rfl) (by kernel_rfl) (by kernel_rfl) (fun _ _ _ h => h) (Or.inl ⟨by rfl, ?hy2⟩) ?_
      case hy2 => ((intro w; go_simp); (try with_reducible rfl))
      (try simp only [List.getElem_toArray, List.getElem_cons_succ, List.getElem_cons_zero, Act.put, List.setIfInBounds_toArray, List.set_cons_zero, List.set_cons_succ])
      refine wpAny_take (i := 3) (v := ?_) rfl (by kernel_rfl) (by kernel_rfl) (by kernel_rfl) (fun _ _ _ h => h) (Or.inl ⟨by rfl, ?hy3⟩) ?_
      case hy3 => ((intro w; go_simp); (try with_reducible rfl))
      (try simp only [List.getElem_toArray, List.getElem_cons_succ, List.getElem_cons_zero, Act.put, List.setIfInBounds_toArray, List.set_cons_zero, List.set_cons_succ])
      refine wpAny_take (i := 4) (v := undef) rfl (by kernel_rfl) (by kernel_rfl) (by kernel_rfl) (fun _ _ _ h => h) (Or.inr ⟨by rfl, rfl⟩) ?_
      (try simp only [List.getElem_toArray, List.getElem_cons_succ, List.getElem_cons_zero, Act.put, List.setIfInBounds_toArray, List.set_cons_zero, List.set_cons_succ])
      refine wpAny_take (i := 5) (v := undef) rfl (by kernel_rfl) (by kernel_rfl) (by kernel_rfl) (fun _ _ _ h => h) (Or.inr ⟨by rfl, rfl⟩) ?_
      (try simp only [List.getElem_toArray, List.getElem_cons_succ, List.getElem_cons_zero, Act.put, List.setIfInBounds_toArray, List.set_cons_zero, List.set_cons_succ])
      refine wpAny_take (i := 6) (v := ?_) rfl (by kernel_rfl) (by kernel_rfl) (by kernel_rfl) (fun _ _ _ h => h) (Or.inl ⟨by rfl, ?hy4⟩) ?_
      case hy4 => ((intro w; go_simp); (try with_reducible rfl))
      (try simp only [List.getElem_toArray, List.getElem_cons_succ, List.getElem_cons_zero, Act.put, List.setIfInBounds_toArray, List.set_cons_zero, List.set_cons_succ])
      refine wpAny_ready (rs := [1]) (by kernel_rfl) (by simp) ?_
      refine AllReady.cons rfl (fun K hK => ?_) AllReady.nil
      go_simp
      (try (refine hK _ _ ?_; clear hK K))
      (try simp only [List.getElem_toArray, List.getElem_cons_succ, List.getElem_cons_zero, Act.put, List.setIfInBounds_toArray, List.set_cons_zero, List.set_cons_succ])
      refine wpAny_ready (rs := [7]) (by kernel_rfl) (by simp) ?_
      refine AllReady.cons rfl (fun K hK => ?_) AllReady.nil
      go_simp
      go_wp2_with (first | (go_at_call 26; (with_reducible refine (l15Code_is _ _ _ xs b d _ _ (hI.ext (by with_reducible (repeat (first | exact Ext.refl _ | apply Ext.drewN | apply Ext.drew | apply Ext.alloc | (refine Ext.set ?_ (by first | (simp; done) | (simp; omega) | omega) _) | (refine Ext.trans ?_ (by assumption)))))) r HC2.out).mono ?_); rintro e w1 ⟨rfl, hx⟩; have hz := hx.size; (try simp at hz); (try (have hq0 : w.heap.size < w1.heap.size := by omega)); (try (have hc0 : ∀ o, w1.cell? ⟨w.heap.size, o, none⟩ = _ := fun o => hx.cells.1 _ o (by first | (simp; done) | (simp; omega) | omega))); (try (have hf0 : ∀ o, w1.frozen? ⟨w.heap.size, o, none⟩ = _ := fun o => hx.cells.2 _ o (by first | (simp; done) | (simp; omega) | omega))); (try (have hq1 : w.heap.size + 1 < w1.heap.size := by omega)); (try (have hc1 : ∀ o, w1.cell? ⟨w.heap.size + 1, o, none⟩ = _ := fun o => hx.cells.1 _ o (by first | (simp; done) | (simp; omega) | omega))); (try (have hf1 : ∀ o, w1.frozen? ⟨w.heap.size + 1, o, none⟩ = _ := fun o => hx.cells.2 _ o (by first | (simp; done) | (simp; omega) | omega))); (try (have hq2 : w.heap.size + 2 < w1.heap.size := by omega)); (try (have hc2 : ∀ o, w1.cell? ⟨w.heap.size + 2, o, none⟩ = _ := fun o => hx.cells.1 _ o (by first | (simp; done) | (simp; omega) | omega))); (try (have hf2 : ∀ o, w1.frozen? ⟨w.heap.size + 2, o, none⟩ = _ := fun o => hx.cells.2 _ o (by first | (simp; done) | (simp; omega) | omega)))))
      (try (refine hK _ _ ?_; clear hK K))
      (try simp only [List.getElem_toArray, List.getElem_cons_succ, List.getElem_cons_zero, Act.put, List.setIfInBounds_toArray, List.set_cons_zero, List.set_cons_succ])
      refine wpAny_take (i := 8) (v := ?_) rfl (by kernel_rfl) (by kernel_rfl) (by kernel_rfl) (fun _ _ _ h => h) (Or.inl ⟨by rfl, ?hy5⟩) ?_
      case hy5 => ((intro w; go_simp); (try with_reducible rfl))
      (try simp only [List.getElem_toArray, List.getElem_cons_succ, List.getElem_cons_zero, Act.put, List.setIfInBounds_toArray, List.set_cons_zero, List.set_cons_succ])
      refine wpAny_done (by kernel_rfl) ?_ _
      go_wp2
      go_quiet (fail)
      go_wp2
      go_ret
      exact ⟨rfl, (by with_reducible (repeat (first | exact Ext.refl _ | apply Ext.drewN | apply Ext.drew | apply Ext.alloc | (refine Ext.set ?_ (by first | (simp; done) | (simp; omega) | omega) _) | (refine Ext.trans ?_ (by assumption)))))⟩
    · have HC2 : Hid (tcd (vpat xs) (vtim b d && btw wd 0 16) (fits xs b d) = r) := HC.out
      clear HC
      go_enter Try.func36, Try.ntmps36
      go_wp2
      go_region_held3 (fun wz => wz.cell? ⟨w.heap.size, 0, none⟩ = some (.int .i64 b) ∧ wz.cell? ⟨w.heap.size, 1, none⟩ = some (.int .i64 d)) (go_keep)
        (first | (go_at_call 27; (with_reducible refine (l00In_any _ _ _ _).mono ?_); rintro e w' ⟨rfl, rfl⟩) | (go_at_call 26; (with_reducible refine (l15Code_is _ _ _ xs b d _ _ (hI.ext (by with_reducible (repeat (first | exact Ext.refl _ | apply Ext.drewN | apply Ext.drew | apply Ext.alloc | (refine Ext.set ?_ (by first | (simp; done) | (simp; omega) | omega) _) | (refine Ext.trans ?_ (by assumption)))))) r HC2.out).mono ?_); rintro e w1 ⟨rfl, hx⟩; have hz := hx.size; (try simp at hz); (try (have hq0 : w.heap.size < w1.heap.size := by omega)); (try (have hc0 : ∀ o, w1.cell? ⟨w.heap.size, o, none⟩ = _ := fun o => hx.cells.1 _ o (by first | (simp; done) | (simp; omega) | omega))); (try (have hf0 : ∀ o, w1.frozen? ⟨w.heap.size, o, none⟩ = _ := fun o => hx.cells.2 _ o (by first | (simp; done) | (simp; omega) | omega))); (try (have hq1 : w.heap.size + 1 < w1.heap.size := by omega)); (try (have hc1 : ∀ o, w1.cell? ⟨w.heap.size + 1, o, none⟩ = _ := fun o => hx.cells.1 _ o (by first | (simp; done) | (simp; omega) | omega))); (try (have hf1 : ∀ o, w1.frozen? ⟨w.heap.size + 1, o, none⟩ = _ := fun o => hx.cells.2 _ o (by first | (simp; done) | (simp; omega) | omega))); (try (have hq2 : w.heap.size + 2 < w1.heap.size := by omega)); (try (have hc2 : ∀ o, w1.cell? ⟨w.heap.size + 2, o, none⟩ = _ := fun o => hx.cells.1 _ o (by first | (simp; done) | (simp; omega) | omega))); (try (have hf2 : ∀ o, w1.frozen? ⟨w.heap.size + 2, o, none⟩ = _ := fun o => hx.cells.2 _ o (by first | (simp; done) | (simp; omega) | omega)))))
      go_wp2
      go_quiet (fail)
      go_wp2
      go_ret
      exact ⟨rfl, (by with_reducible (repeat (first | exact Ext.refl _ | apply Ext.drewN | apply Ext.drew | apply Ext.alloc | (refine Ext.set ?_ (by first | (simp; done) | (simp; omega) | omega) _) | (refine Ext.trans ?_ (by assumption)))))⟩
set_option maxHeartbeats 2000000 in
theorem flightsCode_any (A : Option Addr) (n c : Nat) (xs : List Int) (b d wd t : Int) (w : World) (hI : Ints w A n xs) :
    Calls Try.prog 38 #[.slice A n c, .agg #[.int .i64 b, .int .i64 d], .int .i64 wd, .int .i64 t] w fun e w' => e = .returned (.int .i64 (tcd (vpat xs) (vtim b d && (btw t 0 200 && btw wd 0 16)) (fits xs b d && fl40 xs b d))) ∧ Ext w w' := by
  cases hv : vpat xs
  · have HV := Lib.hid hv
    clear hv
    rw [show ∀ x y, tcd false x y = 1 from fun _ _ => rfl]
    go_enter Try.func38, Try.ntmps38
    go_wp2_with (first | (go_at_call 44; (with_reducible refine (ValidPattern_is _ _ _ xs _ HV.out _ (hI.ext (by with_reducible (repeat (first | exact Ext.refl _ | apply Ext.drewN | apply Ext.drew | apply Ext.alloc | (refine Ext.set ?_ (by first | (simp; done) | (simp; omega) | omega) _) | (refine Ext.trans ?_ (by assumption))))))).mono ?_); rintro e w1 ⟨rfl, hx⟩; have hz := hx.size; (try simp at hz); (try (have hq0 : w.heap.size < w1.heap.size := by omega)); (try (have hc0 : ∀ o, w1.cell? ⟨w.heap.size, o, none⟩ = _ := fun o => hx.cells.1 _ o (by first | (simp; done) | (simp; omega) | omega))); (try (have hf0 : ∀ o, w1.frozen? ⟨w.heap.size, o, none⟩ = _ := fun o => hx.cells.2 _ o (by first | (simp; done) | (simp; omega) | omega))); (try (have hq1 : w.heap.size + 1 < w1.heap.size := by omega)); (try (have hc1 : ∀ o, w1.cell? ⟨w.heap.size + 1, o, none⟩ = _ := fun o => hx.cells.1 _ o (by first | (simp; done) | (simp; omega) | omega))); (try (have hf1 : ∀ o, w1.frozen? ⟨w.heap.size + 1, o, none⟩ = _ := fun o => hx.cells.2 _ o (by first | (simp; done) | (simp; omega) | omega))); (try (have hq2 : w.heap.size + 2 < w1.heap.size := by omega)); (try (have hc2 : ∀ o, w1.cell? ⟨w.heap.size + 2, o, none⟩ = _ := fun o => hx.cells.1 _ o (by first | (simp; done) | (simp; omega) | omega))); (try (have hf2 : ∀ o, w1.frozen? ⟨w.heap.size + 2, o, none⟩ = _ := fun o => hx.cells.2 _ o (by first | (simp; done) | (simp; omega) | omega)))) | (go_at_call 45; (with_reducible refine (implValidTiming_any b d _).mono ?_); rw [HT.out]; rintro e w1 ⟨rfl, hx⟩; have hz := hx.size; (try simp at hz); (try (have hq0 : w.heap.size < w1.heap.size := by omega)); (try (have hc0 : ∀ o, w1.cell? ⟨w.heap.size, o, none⟩ = _ := fun o => hx.cells.1 _ o (by first | (simp; done) | (simp; omega) | omega)))) | (go_at_call 46; (with_reducible refine (between_is wd 0 16 _ HM.out _).mono ?_); rintro e w' ⟨rfl, rfl⟩) | (go_at_call 46; (with_reducible refine (between_is t 0 200 _ HQ.out _).mono ?_); rintro e w' ⟨rfl, rfl⟩))
    go_ret
    exact ⟨rfl, (by with_reducible (repeat (first | exact Ext.refl _ | apply Ext.drewN | apply Ext.drew | apply Ext.alloc | (refine Ext.set ?_ (by first | (simp; done) | (simp; omega) | omega) _) | (refine Ext.trans ?_ (by assumption)))))⟩
  have HV := Lib.hid hv
  clear hv
  cases ht : vtim b d
  · have HT := Lib.hid ht
    clear ht
    rw [show ∀ x y, tcd true (false && x) y = 2 from fun _ _ => rfl]
    go_enter Try.func38, Try.ntmps38
    go_wp2_with (first | (go_at_call 44; (with_reducible refine (ValidPattern_is _ _ _ xs _ HV.out _ (hI.ext (by with_reducible (repeat (first | exact Ext.refl _ | apply Ext.drewN | apply Ext.drew | apply Ext.alloc | (refine Ext.set ?_ (by first | (simp; done) | (simp; omega) | omega) _) | (refine Ext.trans ?_ (by assumption))))))).mono ?_); rintro e w1 ⟨rfl, hx⟩; have hz := hx.size; (try simp at hz); (try (have hq0 : w.heap.size < w1.heap.size := by omega)); (try (have hc0 : ∀ o, w1.cell? ⟨w.heap.size, o, none⟩ = _ := fun o => hx.cells.1 _ o (by first | (simp; done) | (simp; omega) | omega))); (try (have hf0 : ∀ o, w1.frozen? ⟨w.heap.size, o, none⟩ = _ := fun o => hx.cells.2 _ o (by first | (simp; done) | (simp; omega) | omega))); (try (have hq1 : w.heap.size + 1 < w1.heap.size := by omega)); (try (have hc1 : ∀ o, w1.cell? ⟨w.heap.size + 1, o, none⟩ = _ := fun o => hx.cells.1 _ o (by first | (simp; done) | (simp; omega) | omega))); (try (have hf1 : ∀ o, w1.frozen? ⟨w.heap.size + 1, o, none⟩ = _ := fun o => hx.cells.2 _ o (by first | (simp; done) | (simp; omega) | omega))); (try (have hq2 : w.heap.size + 2 < w1.heap.size := by omega)); (try (have hc2 : ∀ o, w1.cell? ⟨w.heap.size + 2, o, none⟩ = _ := fun o => hx.cells.1 _ o (by first | (simp; done) | (simp; omega) | omega))); (try (have hf2 : ∀ o, w1.frozen? ⟨w.heap.size + 2, o, none⟩ = _ := fun o => hx.cells.2 _ o (by first | (simp; done) | (simp; omega) | omega)))) | (go_at_call 45; (with_reducible refine (implValidTiming_any b d _).mono ?_); rw [HT.out]; rintro e w1 ⟨rfl, hx⟩; have hz := hx.size; (try simp at hz); (try (have hq0 : w.heap.size < w1.heap.size := by omega)); (try (have hc0 : ∀ o, w1.cell? ⟨w.heap.size, o, none⟩ = _ := fun o => hx.cells.1 _ o (by first | (simp; done) | (simp; omega) | omega)))) | (go_at_call 46; (with_reducible refine (between_is wd 0 16 _ HM.out _).mono ?_); rintro e w' ⟨rfl, rfl⟩) | (go_at_call 46; (with_reducible refine (between_is t 0 200 _ HQ.out _).mono ?_); rintro e w' ⟨rfl, rfl⟩))
    go_ret
    exact ⟨rfl, (by with_reducible (repeat (first | exact Ext.refl _ | apply Ext.drewN | apply Ext.drew | apply Ext.alloc | (refine Ext.set ?_ (by first | (simp; done) | (simp; omega) | omega) _) | (refine Ext.trans ?_ (by assumption)))))⟩
  have HT := Lib.hid ht
  obtain ⟨hb, hd⟩ := vtim_iff.1 ht
  clear ht
  cases hm : btw wd 0 16
  · have HM := Lib.hid hm
    clear hm
    rw [show ∀ x y, tcd true (true && (x && false)) y = 2 from fun x _ => by cases x <;> rfl]
    go_enter Try.func38, Try.ntmps38
    go_wp2_with (first | (go_at_call 44; (with_reducible refine (ValidPattern_is _ _ _ xs _ HV.out _ (hI.ext (by with_reducible (repeat (first | exact Ext.refl _ | apply Ext.drewN | apply Ext.drew | apply Ext.alloc | (refine Ext.set ?_ (by first | (simp; done) | (simp; omega) | omega) _) | (refine Ext.trans ?_ (by assumption))))))).mono ?_); rintro e w1 ⟨rfl, hx⟩; have hz := hx.size; (try simp at hz); (try (have hq0 : w.heap.size < w1.heap.size := by omega)); (try (have hc0 : ∀ o, w1.cell? ⟨w.heap.size, o, none⟩ = _ := fun o => hx.cells.1 _ o (by first | (simp; done) | (simp; omega) | omega))); (try (have hf0 : ∀ o, w1.frozen? ⟨w.heap.size, o, none⟩ = _ := fun o => hx.cells.2 _ o (by first | (simp; done) | (simp; omega) | omega))); (try (have hq1 : w.heap.size + 1 < w1.heap.size := by omega)); (try (have hc1 : ∀ o, w1.cell? ⟨w.heap.size + 1, o, none⟩ = _ := fun o => hx.cells.1 _ o (by first | (simp; done) | (simp; omega) | omega))); (try (have hf1 : ∀ o, w1.frozen? ⟨w.heap.size + 1, o, none⟩ = _ := fun o => hx.cells.2 _ o (by first | (simp; done) | (simp; omega) | omega))); (try (have hq2 : w.heap.size + 2 < w1.heap.size := by omega)); (try (have hc2 : ∀ o, w1.cell? ⟨w.heap.size + 2, o, none⟩ = _ := fun o => hx.cells.1 _ o (by first | (simp; done) | (simp; omega) | omega))); (try (have hf2 : ∀ o, w1.frozen? ⟨w.heap.size + 2, o, none⟩ = _ := fun o => hx.cells.2 _ o (by first | (simp; done) | (simp; omega) | omega)))) | (go_at_call 45; (with_reducible refine (implValidTiming_any b d _).mono ?_); rw [HT.out]; rintro e w1 ⟨rfl, hx⟩; have hz := hx.size; (try simp at hz); (try (have hq0 : w.heap.size < w1.heap.size := by omega)); (try (have hc0 : ∀ o, w1.cell? ⟨w.heap.size, o, none⟩ = _ := fun o => hx.cells.1 _ o (by first | (simp; done) | (simp; omega) | omega)))) | (go_at_call 46; (with_reducible refine (between_is wd 0 16 _ HM.out _).mono ?_); rintro e w' ⟨rfl, rfl⟩) | (go_at_call 46; (with_reducible refine (between_is t 0 200 _ HQ.out _).mono ?_); rintro e w' ⟨rfl, rfl⟩))
    go_ret
    exact ⟨rfl, (by with_reducible (repeat (first | exact Ext.refl _ | apply Ext.drewN | apply Ext.drew | apply Ext.alloc | (refine Ext.set ?_ (by first | (simp; done) | (simp; omega) | omega) _) | (refine Ext.trans ?_ (by assumption)))))⟩
  have HM := Lib.hid hm
  clear hm
  cases hq : btw t 0 200
  · have HQ := Lib.hid hq
    clear hq
    rw [show ∀ y, tcd true (true && (false && true)) y = 2 from fun _ => rfl]
    go_enter Try.func38, Try.ntmps38
    go_wp2_with (first | (go_at_call 44; (with_reducible refine (ValidPattern_is _ _ _ xs _ HV.out _ (hI.ext (by with_reducible (repeat (first | exact Ext.refl _ | apply Ext.drewN | apply Ext.drew | apply Ext.alloc | (refine Ext.set ?_ (by first | (simp; done) | (simp; omega) | omega) _) | (refine Ext.trans ?_ (by assumption))))))).mono ?_); rintro e w1 ⟨rfl, hx⟩; have hz := hx.size; (try simp at hz); (try (have hq0 : w.heap.size < w1.heap.size := by omega)); (try (have hc0 : ∀ o, w1.cell? ⟨w.heap.size, o, none⟩ = _ := fun o => hx.cells.1 _ o (by first | (simp; done) | (simp; omega) | omega))); (try (have hf0 : ∀ o, w1.frozen? ⟨w.heap.size, o, none⟩ = _ := fun o => hx.cells.2 _ o (by first | (simp; done) | (simp; omega) | omega))); (try (have hq1 : w.heap.size + 1 < w1.heap.size := by omega)); (try (have hc1 : ∀ o, w1.cell? ⟨w.heap.size + 1, o, none⟩ = _ := fun o => hx.cells.1 _ o (by first | (simp; done) | (simp; omega) | omega))); (try (have hf1 : ∀ o, w1.frozen? ⟨w.heap.size + 1, o, none⟩ = _ := fun o => hx.cells.2 _ o (by first | (simp; done) | (simp; omega) | omega))); (try (have hq2 : w.heap.size + 2 < w1.heap.size := by omega)); (try (have hc2 : ∀ o, w1.cell? ⟨w.heap.size + 2, o, none⟩ = _ := fun o => hx.cells.1 _ o (by first | (simp; done) | (simp; omega) | omega))); (try (have hf2 : ∀ o, w1.frozen? ⟨w.heap.size + 2, o, none⟩ = _ := fun o => hx.cells.2 _ o (by first | (simp; done) | (simp; omega) | omega)))) | (go_at_call 45; (with_reducible refine (implValidTiming_any b d _).mono ?_); rw [HT.out]; rintro e w1 ⟨rfl, hx⟩; have hz := hx.size; (try simp at hz); (try (have hq0 : w.heap.size < w1.heap.size := by omega)); (try (have hc0 : ∀ o, w1.cell? ⟨w.heap.size, o, none⟩ = _ := fun o => hx.cells.1 _ o (by first | (simp; done) | (simp; omega) | omega)))) | (go_at_call 46; (with_reducible refine (between_is wd 0 16 _ HM.out _).mono ?_); rintro e w' ⟨rfl, rfl⟩) | (go_at_call 46; (with_reducible refine (between_is t 0 200 _ HQ.out _).mono ?_); rintro e w' ⟨rfl, rfl⟩))
    go_ret
    exact ⟨rfl, (by with_reducible (repeat (first | exact Ext.refl _ | apply Ext.drewN | apply Ext.drew | apply Ext.alloc | (refine Ext.set ?_ (by first | (simp; done) | (simp; omega) | omega) _) | (refine Ext.trans ?_ (by assumption)))))⟩
  have HQ := Lib.hid hq
  clear hq
  have hg := hig_bd (xs := xs) (k := n) (fun i hi => (thr_iff.1 (vpat_thr HV.out)).1 i (by rw [hI.len]; exact hi))
  have hp := mul_bd (a := hig xs n) (b := b) (A := 15) (B := 30) (by omega) (by omega)
  have e1 : IntKind.i64.wrap (hig xs n * b) = hig xs n * b := IntWalk.i64_in _ (by omega)
  have e2 : IntKind.i64.wrap (hig xs n * b - d) = hig xs n * b - d := IntWalk.i64_in _ (by omega)
  cases hf : fits xs b d
  · have HF := Lib.hid hf
    clear hf
    rw [show ∀ y, tcd true (true && (true && true)) (false && y) = 6 from fun _ => rfl]
    go_enter Try.func38, Try.ntmps38
    go_wp2_with (first | (go_at_call 44; (with_reducible refine (ValidPattern_is _ _ _ xs _ HV.out _ (hI.ext (by with_reducible (repeat (first | exact Ext.refl _ | apply Ext.drewN | apply Ext.drew | apply Ext.alloc | (refine Ext.set ?_ (by first | (simp; done) | (simp; omega) | omega) _) | (refine Ext.trans ?_ (by assumption))))))).mono ?_); rintro e w1 ⟨rfl, hx⟩; have hz := hx.size; (try simp at hz); (try (have hq0 : w.heap.size < w1.heap.size := by omega)); (try (have hc0 : ∀ o, w1.cell? ⟨w.heap.size, o, none⟩ = _ := fun o => hx.cells.1 _ o (by first | (simp; done) | (simp; omega) | omega))); (try (have hf0 : ∀ o, w1.frozen? ⟨w.heap.size, o, none⟩ = _ := fun o => hx.cells.2 _ o (by first | (simp; done) | (simp; omega) | omega))); (try (have hq1 : w.heap.size + 1 < w1.heap.size := by omega)); (try (have hc1 : ∀ o, w1.cell? ⟨w.heap.size + 1, o, none⟩ = _ := fun o => hx.cells.1 _ o (by first | (simp; done) | (simp; omega) | omega))); (try (have hf1 : ∀ o, w1.frozen? ⟨w.heap.size + 1, o, none⟩ = _ := fun o => hx.cells.2 _ o (by first | (simp; done) | (simp; omega) | omega))); (try (have hq2 : w.heap.size + 2 < w1.heap.size := by omega)); (try (have hc2 : ∀ o, w1.cell? ⟨w.heap.size + 2, o, none⟩ = _ := fun o => hx.cells.1 _ o (by first | (simp; done) | (simp; omega) | omega))); (try (have hf2 : ∀ o, w1.frozen? ⟨w.heap.size + 2, o, none⟩ = _ := fun o => hx.cells.2 _ o (by first | (simp; done) | (simp; omega) | omega)))) | (go_at_call 45; (with_reducible refine (implValidTiming_any b d _).mono ?_); rw [HT.out]; rintro e w1 ⟨rfl, hx⟩; have hz := hx.size; (try simp at hz); (try (have hq0 : w.heap.size < w1.heap.size := by omega)); (try (have hc0 : ∀ o, w1.cell? ⟨w.heap.size, o, none⟩ = _ := fun o => hx.cells.1 _ o (by first | (simp; done) | (simp; omega) | omega)))) | (go_at_call 46; (with_reducible refine (between_is wd 0 16 _ HM.out _).mono ?_); rintro e w' ⟨rfl, rfl⟩) | (go_at_call 46; (with_reducible refine (between_is t 0 200 _ HQ.out _).mono ?_); rintro e w' ⟨rfl, rfl⟩))
    refine wp_region_any (by kernel_rfl) ?_
    (try (change wpAny _ _ _ _ _ _ _ (World.drew _)))
    refine wpAny_take (i := 1) (v := ?_) rfl (by kernel_rfl) (by kernel_rfl) (by kernel_rfl) (fun _ _ _ h => h) (Or.inl ⟨by rfl, ?hy6⟩) ?_
    case hy6 => ((intro w; go_simp); (try with_reducible rfl))
    (try simp only [List.getElem_toArray, List.getElem_cons_succ, List.getElem_cons_zero, Act.put, List.setIfInBounds_toArray, List.set_cons_zero, List.set_cons_succ])
    refine wpAny_ready (rs := [0]) (by kernel_rfl) (by simp) ?_
    refine AllReady.cons rfl (fun K hK => ?_) AllReady.nil
    go_simp
    (try (refine hK _ _ ?_; clear hK K))
    (try simp only [List.getElem_toArray, List.getElem_cons_succ, List.getElem_cons_zero, Act.put, List.setIfInBounds_toArray, List.set_cons_zero, List.set_cons_succ])
    refine wpAny_ready (rs := [2]) (by kernel_rfl) (by simp) ?_
    refine AllReady.cons rfl (fun K hK => ?_) AllReady.nil
    go_simp
    go_wp2_with (first | (go_at_call 47; (with_reducible refine (fits_any _ _ _ xs b d _ (hI.ext (by with_reducible (repeat (first | exact Ext.refl _ | apply Ext.drewN | apply Ext.drew | apply Ext.alloc | (refine Ext.set ?_ (by first | (simp; done) | (simp; omega) | omega) _) | (refine Ext.trans ?_ (by assumption)))))) HV.out HT.out).mono ?_); rw [HF.out]; rintro e w1 ⟨rfl, hx⟩; have hz := hx.size; (try simp at hz); (try (have hq0 : w.heap.size < w1.heap.size := by omega)); (try (have hc0 : ∀ o, w1.cell? ⟨w.heap.size, o, none⟩ = _ := fun o => hx.cells.1 _ o (by first | (simp; done) | (simp; omega) | omega)))))
    (try (refine hK _ _ ?_; clear hK K))
    (try simp only [List.getElem_toArray, List.getElem_cons_succ, List.getElem_cons_zero, Act.put, List.setIfInBounds_toArray, List.set_cons_zero, List.set_cons_succ])
    refine wpAny_take (i := 3) (v := ?_) rfl (by kernel_rfl) (by kernel_rfl) (by kernel_rfl) (fun _ _ _ h => h) (Or.inl ⟨by rfl, ?hy7⟩) ?_
    case hy7 => ((intro w; go_simp); (try with_reducible rfl))
    (try simp only [List.getElem_toArray, List.getElem_cons_succ, List.getElem_cons_zero, Act.put, List.setIfInBounds_toArray, List.set_cons_zero, List.set_cons_succ])
    refine wpAny_take (i := 4) (v := ?_) rfl (by kernel_rfl) (by kernel_rfl) (by kernel_rfl) (fun _ _ _ h => h) (Or.inl ⟨by rfl, ?hy8⟩) ?_
    case hy8 => ((intro w; go_simp); (try with_reducible rfl))
    (try simp only [List.getElem_toArray, List.getElem_cons_succ, List.getElem_cons_zero, Act.put, List.setIfInBounds_toArray, List.set_cons_zero, List.set_cons_succ])
    refine wpAny_take (i := 5) (v := undef) rfl (by kernel_rfl) (by kernel_rfl) (by kernel_rfl) (fun _ _ _ h => h) (Or.inr ⟨by rfl, rfl⟩) ?_
    (try simp only [List.getElem_toArray, List.getElem_cons_succ, List.getElem_cons_zero, Act.put, List.setIfInBounds_toArray, List.set_cons_zero, List.set_cons_succ])
    refine wpAny_take (i := 6) (v := undef) rfl (by kernel_rfl) (by kernel_rfl) (by kernel_rfl) (fun _ _ _ h => h) (Or.inr ⟨by rfl, rfl⟩) ?_
    (try simp only [List.getElem_toArray, List.getElem_cons_succ, List.getElem_cons_zero, Act.put, List.setIfInBounds_toArray, List.set_cons_zero, List.set_cons_succ])
    refine wpAny_take (i := 7) (v := undef) rfl (by kernel_rfl) (by kernel_rfl) (by kernel_rfl) (fun _ _ _ h => h) (Or.inr ⟨by rfl, rfl⟩) ?_
    (try simp only [List.getElem_toArray, List.getElem_cons_succ, List.getElem_cons_zero, Act.put, List.setIfInBounds_toArray, List.set_cons_zero, List.set_cons_succ])
    refine wpAny_take (i := 8) (v := undef) rfl (by kernel_rfl) (by kernel_rfl) (by kernel_rfl) (fun _ _ _ h => h) (Or.inr ⟨by rfl, rfl⟩) ?_
    (try simp only [List.getElem_toArray, List.getElem_cons_succ, List.getElem_cons_zero, Act.put, List.setIfInBounds_toArray, List.set_cons_zero, List.set_cons_succ])
    refine wpAny_take (i := 9) (v := undef) rfl (by kernel_rfl) (by kernel_rfl) (by kernel_rfl) (fun _ _ _ h => h) (Or.inr ⟨by rfl, rfl⟩) ?_
    (try simp only [List.getElem_toArray, List.getElem_cons_succ, List.getElem_cons_zero, Act.put, List.setIfInBounds_toArray, List.set_cons_zero, List.set_cons_succ])
    refine wpAny_take (i := 10) (v := undef) rfl (by kernel_rfl) (by kernel_rfl) (by kernel_rfl) (fun _ _ _ h => h) (Or.inr ⟨by rfl, rfl⟩) ?_
    (try simp only [List.getElem_toArray, List.getElem_cons_succ, List.getElem_cons_zero, Act.put, List.setIfInBounds_toArray, List.set_cons_zero, List.set_cons_succ])
    refine wpAny_take (i := 11) (v := undef) rfl (by kernel_rfl) (by kernel_rfl) (by kernel_rfl) (fun _ _ _ h => h) (Or.inr ⟨by rfl, rfl⟩) ?_
    (try simp only [List.getElem_toArray, List.getElem_cons_succ, List.getElem_cons_zero, Act.put, List.setIfInBounds_toArray, List.set_cons_zero, List.set_cons_succ])
    refine wpAny_take (i := 12) (v := undef) rfl (by kernel_rfl) (by kernel_rfl) (by kernel_rfl) (fun _ _ _ h => h) (Or.inr ⟨by rfl, rfl⟩) ?_
    (try simp only [List.getElem_toArray, List.getElem_cons_succ, List.getElem_cons_zero, Act.put, List.setIfInBounds_toArray, List.set_cons_zero, List.set_cons_succ])
    refine wpAny_take (i := 13) (v := undef) rfl (by kernel_rfl) (by kernel_rfl) (by kernel_rfl) (fun _ _ _ h => h) (Or.inr ⟨by rfl, rfl⟩) ?_
    (try simp only [List.getElem_toArray, List.getElem_cons_succ, List.getElem_cons_zero, Act.put, List.setIfInBounds_toArray, List.set_cons_zero, List.set_cons_succ])
    refine wpAny_take (i := 14) (v := ?_) rfl (by kernel_rfl) (by kernel_rfl) (by kernel_rfl) (fun _ _ _ h => h) (Or.inl ⟨by rfl, ?hy9⟩) ?_
    case hy9 => ((intro w; go_simp); (try with_reducible rfl))
    (try simp only [List.getElem_toArray, List.getElem_cons_succ, List.getElem_cons_zero, Act.put, List.setIfInBounds_toArray, List.set_cons_zero, List.set_cons_succ])
    refine wpAny_done (by kernel_rfl) ?_ _
    go_wp2
    go_ret
    exact ⟨rfl, (by with_reducible (repeat (first | exact Ext.refl _ | apply Ext.drewN | apply Ext.drew | apply Ext.alloc | (refine Ext.set ?_ (by first | (simp; done) | (simp; omega) | omega) _) | (refine Ext.trans ?_ (by assumption)))))⟩
  have HF := Lib.hid hf
  clear hf
  by_cases h40 : 40 < hig xs n * b - d
  · have HL : Hid (fl40 xs b d = false) := by show _ = _; unfold fl40; rw [hI.len]; exact decide_eq_false (by omega)
    rw [HL.out, show tcd true (true && (true && true)) (true && false) = 6 from rfl]
    go_enter Try.func38, Try.ntmps38
    go_wp2_with (first | (go_at_call 44; (with_reducible refine (ValidPattern_is _ _ _ xs _ HV.out _ (hI.ext (by with_reducible (repeat (first | exact Ext.refl _ | apply Ext.drewN | apply Ext.drew | apply Ext.alloc | (refine Ext.set ?_ (by first | (simp; done) | (simp; omega) | omega) _) | (refine Ext.trans ?_ (by assumption))))))).mono ?_); rintro e w1 ⟨rfl, hx⟩; have hz := hx.size; (try simp at hz); (try (have hq0 : w.heap.size < w1.heap.size := by omega)); (try (have hc0 : ∀ o, w1.cell? ⟨w.heap.size, o, none⟩ = _ := fun o => hx.cells.1 _ o (by first | (simp; done) | (simp; omega) | omega))); (try (have hf0 : ∀ o, w1.frozen? ⟨w.heap.size, o, none⟩ = _ := fun o => hx.cells.2 _ o (by first | (simp; done) | (simp; omega) | omega))); (try (have hq1 : w.heap.size + 1 < w1.heap.size := by omega)); (try (have hc1 : ∀ o, w1.cell? ⟨w.heap.size + 1, o, none⟩ = _ := fun o => hx.cells.1 _ o (by first | (simp; done) | (simp; omega) | omega))); (try (have hf1 : ∀ o, w1.frozen? ⟨w.heap.size + 1, o, none⟩ = _ := fun o => hx.cells.2 _ o (by first | (simp; done) | (simp; omega) | omega))); (try (have hq2 : w.heap.size + 2 < w1.heap.size := by omega)); (try (have hc2 : ∀ o, w1.cell? ⟨w.heap.size + 2, o, none⟩ = _ := fun o => hx.cells.1 _ o (by first | (simp; done) | (simp; omega) | omega))); (try (have hf2 : ∀ o, w1.frozen? ⟨w.heap.size + 2, o, none⟩ = _ := fun o => hx.cells.2 _ o (by first | (simp; done) | (simp; omega) | omega)))) | (go_at_call 45; (with_reducible refine (implValidTiming_any b d _).mono ?_); rw [HT.out]; rintro e w1 ⟨rfl, hx⟩; have hz := hx.size; (try simp at hz); (try (have hq0 : w.heap.size < w1.heap.size := by omega)); (try (have hc0 : ∀ o, w1.cell? ⟨w.heap.size, o, none⟩ = _ := fun o => hx.cells.1 _ o (by first | (simp; done) | (simp; omega) | omega)))) | (go_at_call 46; (with_reducible refine (between_is wd 0 16 _ HM.out _).mono ?_); rintro e w' ⟨rfl, rfl⟩) | (go_at_call 46; (with_reducible refine (between_is t 0 200 _ HQ.out _).mono ?_); rintro e w' ⟨rfl, rfl⟩))
    go_region_held3 (fun wz => wz.cell? ⟨w.heap.size, 0, none⟩ = some (.int .i64 b) ∧ wz.cell? ⟨w.heap.size, 1, none⟩ = some (.int .i64 d)) (go_keep)
      (first | (go_at_call 47; (with_reducible refine (fits_any _ _ _ xs b d _ (hI.ext (by with_reducible (repeat (first | exact Ext.refl _ | apply Ext.drewN | apply Ext.drew | apply Ext.alloc | (refine Ext.set ?_ (by first | (simp; done) | (simp; omega) | omega) _) | (refine Ext.trans ?_ (by assumption)))))) HV.out HT.out).mono ?_); rw [HF.out]; rintro e w1 ⟨rfl, hx⟩; have hz := hx.size; (try simp at hz); (try (have hq0 : w.heap.size < w1.heap.size := by omega)); (try (have hc0 : ∀ o, w1.cell? ⟨w.heap.size, o, none⟩ = _ := fun o => hx.cells.1 _ o (by first | (simp; done) | (simp; omega) | omega)))) | (go_at_call 52; (with_reducible refine (highest_any _ _ _ xs _ (hI.ext (by with_reducible (repeat (first | exact Ext.refl _ | apply Ext.drewN | apply Ext.drew | apply Ext.alloc | (refine Ext.set ?_ (by first | (simp; done) | (simp; omega) | omega) _) | (refine Ext.trans ?_ (by assumption)))))) HV.out).mono ?_); rintro e w' ⟨rfl, rfl⟩))
    go_wp2
    go_ret
    exact ⟨rfl, (by with_reducible (repeat (first | exact Ext.refl _ | apply Ext.drewN | apply Ext.drew | apply Ext.alloc | (refine Ext.set ?_ (by first | (simp; done) | (simp; omega) | omega) _) | (refine Ext.trans ?_ (by assumption)))))⟩
  · have HL : Hid (fl40 xs b d = true) := by show _ = _; unfold fl40; rw [hI.len]; exact decide_eq_true (by omega)
    rw [HL.out, show tcd true (true && (true && true)) (true && true) = 0 from rfl]
    go_enter Try.func38, Try.ntmps38
    go_wp2_with (first | (go_at_call 44; (with_reducible refine (ValidPattern_is _ _ _ xs _ HV.out _ (hI.ext (by with_reducible (repeat (first | exact Ext.refl _ | apply Ext.drewN | apply Ext.drew | apply Ext.alloc | (refine Ext.set ?_ (by first | (simp; done) | (simp; omega) | omega) _) | (refine Ext.trans ?_ (by assumption))))))).mono ?_); rintro e w1 ⟨rfl, hx⟩; have hz := hx.size; (try simp at hz); (try (have hq0 : w.heap.size < w1.heap.size := by omega)); (try (have hc0 : ∀ o, w1.cell? ⟨w.heap.size, o, none⟩ = _ := fun o => hx.cells.1 _ o (by first | (simp; done) | (simp; omega) | omega))); (try (have hf0 : ∀ o, w1.frozen? ⟨w.heap.size, o, none⟩ = _ := fun o => hx.cells.2 _ o (by first | (simp; done) | (simp; omega) | omega))); (try (have hq1 : w.heap.size + 1 < w1.heap.size := by omega)); (try (have hc1 : ∀ o, w1.cell? ⟨w.heap.size + 1, o, none⟩ = _ := fun o => hx.cells.1 _ o (by first | (simp; done) | (simp; omega) | omega))); (try (have hf1 : ∀ o, w1.frozen? ⟨w.heap.size + 1, o, none⟩ = _ := fun o => hx.cells.2 _ o (by first | (simp; done) | (simp; omega) | omega))); (try (have hq2 : w.heap.size + 2 < w1.heap.size := by omega)); (try (have hc2 : ∀ o, w1.cell? ⟨w.heap.size + 2, o, none⟩ = _ := fun o => hx.cells.1 _ o (by first | (simp; done) | (simp; omega) | omega))); (try (have hf2 : ∀ o, w1.frozen? ⟨w.heap.size + 2, o, none⟩ = _ := fun o => hx.cells.2 _ o (by first | (simp; done) | (simp; omega) | omega)))) | (go_at_call 45; (with_reducible refine (implValidTiming_any b d _).mono ?_); rw [HT.out]; rintro e w1 ⟨rfl, hx⟩; have hz := hx.size; (try simp at hz); (try (have hq0 : w.heap.size < w1.heap.size := by omega)); (try (have hc0 : ∀ o, w1.cell? ⟨w.heap.size, o, none⟩ = _ := fun o => hx.cells.1 _ o (by first | (simp; done) | (simp; omega) | omega)))) | (go_at_call 46; (with_reducible refine (between_is wd 0 16 _ HM.out _).mono ?_); rintro e w' ⟨rfl, rfl⟩) | (go_at_call 46; (with_reducible refine (between_is t 0 200 _ HQ.out _).mono ?_); rintro e w' ⟨rfl, rfl⟩))
    go_region_held3 (fun wz => wz.cell? ⟨w.heap.size, 0, none⟩ = some (.int .i64 b) ∧ wz.cell? ⟨w.heap.size, 1, none⟩ = some (.int .i64 d)) (go_keep)
      (first | (go_at_call 47; (with_reducible refine (fits_any _ _ _ xs b d _ (hI.ext (by with_reducible (repeat (first | exact Ext.refl _ | apply Ext.drewN | apply Ext.drew | apply Ext.alloc | (refine Ext.set ?_ (by first | (simp; done) | (simp; omega) | omega) _) | (refine Ext.trans ?_ (by assumption)))))) HV.out HT.out).mono ?_); rw [HF.out]; rintro e w1 ⟨rfl, hx⟩; have hz := hx.size; (try simp at hz); (try (have hq0 : w.heap.size < w1.heap.size := by omega)); (try (have hc0 : ∀ o, w1.cell? ⟨w.heap.size, o, none⟩ = _ := fun o => hx.cells.1 _ o (by first | (simp; done) | (simp; omega) | omega)))) | (go_at_call 52; (with_reducible refine (highest_any _ _ _ xs _ (hI.ext (by with_reducible (repeat (first | exact Ext.refl _ | apply Ext.drewN | apply Ext.drew | apply Ext.alloc | (refine Ext.set ?_ (by first | (simp; done) | (simp; omega) | omega) _) | (refine Ext.trans ?_ (by assumption)))))) HV.out).mono ?_); rintro e w' ⟨rfl, rfl⟩))
    go_wp2
    go_ret
    exact ⟨rfl, (by with_reducible (repeat (first | exact Ext.refl _ | apply Ext.drewN | apply Ext.drew | apply Ext.alloc | (refine Ext.set ?_ (by first | (simp; done) | (simp; omega) | omega) _) | (refine Ext.trans ?_ (by assumption)))))⟩
end Go.Proofs.Ytklkbldmhhkcjaa
