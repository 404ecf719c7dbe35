/- Contracts of HeldShare. No condition. -/
import Derived.Test.YtbaabghehpcjnaaTcd
namespace Go.Proofs.Ytbaabghehpcjnaa
set_option linter.unusedVariables false
set_option linter.unusedSimpArgs false
open Go.RowKit
theorem implHeldShare_no (A : Option Addr) (n c : Nat) (xs : List Int) (b d : Int) (w : World) (hI : Ints w A n xs) (r : Int) (hr : tcd (vpat xs) (vtim b d && true) (fits xs b d) = r) (h0 : (r != 0) = true) :
    Calls Try.prog 16 #[.slice A n c, .agg #[.int .i64 b, .int .i64 d]] w fun e w' => e = .returned (.tuple #[.int .i64 0, .int .i64 r]) ∧ Ext w w' := by
  go_enter Try.func16, Try.ntmps16
  go_wp2_with (first | (go_at_call 27; (with_reducible refine (timingCode_is _ _ _ xs b d _ _ _ (hI.ext (by with_reducible (repeat (first | exact Ext.refl _ | apply Ext.drewN | apply Ext.drew | apply Ext.alloc | (refine Ext.set ?_ (by first | (simp; done) | (simp; omega) | omega) _) | (refine Ext.trans ?_ (by assumption)))))) r (show tcd (vpat xs) (vtim b d && btw 0 0 0) (fits xs b d) = r by rw [show btw 0 0 0 = true by decide]; exact hr)).mono ?_); rintro e w1 ⟨rfl, hx⟩; have hz := hx.size; (try simp at hz); (try (have hq0 : w.heap.size < w1.heap.size := by omega)); (try (have hc0 : ∀ o, w1.cell? ⟨w.heap.size, o, none⟩ = _ := fun o => hx.cells.1 _ o (by first | (simp; done) | (simp; omega) | omega))); (try (have hf0 : ∀ o, w1.frozen? ⟨w.heap.size, o, none⟩ = _ := fun o => hx.cells.2 _ o (by first | (simp; done) | (simp; omega) | omega))); (try (have hq1 : w.heap.size + 1 < w1.heap.size := by omega)); (try (have hc1 : ∀ o, w1.cell? ⟨w.heap.size + 1, o, none⟩ = _ := fun o => hx.cells.1 _ o (by first | (simp; done) | (simp; omega) | omega))); (try (have hf1 : ∀ o, w1.frozen? ⟨w.heap.size + 1, o, none⟩ = _ := fun o => hx.cells.2 _ o (by first | (simp; done) | (simp; omega) | omega))); (try (have hq2 : w.heap.size + 2 < w1.heap.size := by omega)); (try (have hc2 : ∀ o, w1.cell? ⟨w.heap.size + 2, o, none⟩ = _ := fun o => hx.cells.1 _ o (by first | (simp; done) | (simp; omega) | omega))); (try (have hf2 : ∀ o, w1.frozen? ⟨w.heap.size + 2, o, none⟩ = _ := fun o => hx.cells.2 _ o (by first | (simp; done) | (simp; omega) | omega)))))
  go_ret2
  exact ⟨rfl, (by with_reducible (repeat (first | exact Ext.refl _ | apply Ext.drewN | apply Ext.drew | apply Ext.alloc | (refine Ext.set ?_ (by first | (simp; done) | (simp; omega) | omega) _) | (refine Ext.trans ?_ (by assumption)))))⟩
set_option maxHeartbeats 1000000 in
theorem implHeldShare_yes (A : Option Addr) (n c : Nat) (xs : List Int) (b d : Int) (w : World) (hI : Ints w A n xs) (hr : tcd (vpat xs) (vtim b d && true) (fits xs b d) = 0) :
    Calls Try.prog 16 #[.slice A n c, .agg #[.int .i64 b, .int .i64 d]] w fun e w' => e = .returned (.tuple #[.int .i64 (1000 * acc fThrown xs n * d / (2 * b * n)), .int .i64 0]) ∧ Ext w w' := by
  obtain ⟨hv, ht, hf⟩ := tcd_zero hr
  obtain ⟨hb1, hb2, hb3⟩ := thr_iff.1 (vpat_thr hv)
  rw [hI.len] at hb1 hb2 hb3
  have hb1 := Lib.hid hb1
  rw [Bool.and_true] at ht
  unfold vtim at ht
  rw [Bool.and_eq_true] at ht
  have hbt := btw_iff.1 ht.1
  have hdt := btw_iff.1 ht.2
  have HB := acc_thrown_bd xs n
  have q1 := mul_bd (a := acc fThrown xs n) (b := d) (A := 12) (B := 60) (by omega) (by omega)
  have q1' := Int.mul_nonneg HB.1 (show 0 ≤ d by omega)
  have q2 := mul_bd (a := 2 * b) (b := (n : Int)) (A := 60) (B := 12) (by omega) (by omega)
  have q2' := Int.mul_pos (show 0 < 2 * b by omega) (show 0 < (n : Int) by omega)
  obtain ⟨y1, hy1⟩ : ∃ y, acc fThrown xs n * d = y := ⟨_, rfl⟩
  obtain ⟨z1, hz1⟩ : ∃ z, 1000 * acc fThrown xs n * d = z := ⟨_, rfl⟩
  obtain ⟨z2, hz2⟩ : ∃ z, 2 * b * (n : Int) = z := ⟨_, rfl⟩
  have hy2 : y1 * 1000 = z1 := by rw [← hy1, ← hz1, Int.mul_comm, ← Int.mul_assoc]
  rw [hy1] at q1 q1'
  rw [hz2] at q2 q2'
  have q3 : 0 ≤ z1 ∧ z1 ≤ 720000 := by omega
  have q4 : 0 ≤ z1 / z2 ∧ z1 / z2 ≤ z1 := ⟨Int.ediv_nonneg (by omega) (by omega), Int.ediv_le_self _ (by omega)⟩
  rw [show (1000 * acc fThrown xs n * d / (2 * b * n)) = z1 / z2 by rw [hz1, hz2]]
  have Hy1 := Lib.hid hy1
  have Hz1 := Lib.hid hz1
  have Hz2 := Lib.hid hz2
  have Hy2 := Lib.hid hy2
  clear hy1 hz1 hz2 hy2 ht hv hf
  go_enter Try.func16, Try.ntmps16
  go_wp2_with (first | (go_at_call 27; (with_reducible refine (timingCode_is _ _ _ xs b d _ _ _ (hI.ext (by with_reducible (repeat (first | exact Ext.refl _ | apply Ext.drewN | apply Ext.drew | apply Ext.alloc | (refine Ext.set ?_ (by first | (simp; done) | (simp; omega) | omega) _) | (refine Ext.trans ?_ (by assumption)))))) 0 (show tcd (vpat xs) (vtim b d && btw 0 0 0) (fits xs b d) = 0 by rw [show btw 0 0 0 = true by decide]; exact hr)).mono ?_); rintro e w1 ⟨rfl, hx⟩; have hz := hx.size; (try simp at hz); (try (have hq0 : w.heap.size < w1.heap.size := by omega)); (try (have hc0 : ∀ o, w1.cell? ⟨w.heap.size, o, none⟩ = _ := fun o => hx.cells.1 _ o (by first | (simp; done) | (simp; omega) | omega))); (try (have hf0 : ∀ o, w1.frozen? ⟨w.heap.size, o, none⟩ = _ := fun o => hx.cells.2 _ o (by first | (simp; done) | (simp; omega) | omega))); (try (have hq1 : w.heap.size + 1 < w1.heap.size := by omega)); (try (have hc1 : ∀ o, w1.cell? ⟨w.heap.size + 1, o, none⟩ = _ := fun o => hx.cells.1 _ o (by first | (simp; done) | (simp; omega) | omega))); (try (have hf1 : ∀ o, w1.frozen? ⟨w.heap.size + 1, o, none⟩ = _ := fun o => hx.cells.2 _ o (by first | (simp; done) | (simp; omega) | omega))); (try (have hq2 : w.heap.size + 2 < w1.heap.size := by omega)); (try (have hc2 : ∀ o, w1.cell? ⟨w.heap.size + 2, o, none⟩ = _ := fun o => hx.cells.1 _ o (by first | (simp; done) | (simp; omega) | omega))); (try (have hf2 : ∀ o, w1.frozen? ⟨w.heap.size + 2, o, none⟩ = _ := fun o => hx.cells.2 _ o (by first | (simp; done) | (simp; omega) | omega)))))
  go_loop [7, 18] (fun s i => ∃ k : Nat, k ≤ n ∧ i = .int .i64 k ∧ s = .int .i64 (acc fThrown xs k)) (fun _ i => n - (intOf i).toNat)
  case atStart => exact ⟨0, by omega, rfl, rfl⟩
  case round =>
    obtain ⟨k, hk, rfl, rfl⟩ := hrel
    have hbd := acc_thrown_bd xs k
    by_cases hlt : k < n
    · obtain ⟨b0, off, hA, hbb, hcell⟩ := (hI.ext (w' := w1) (by with_reducible (repeat (first | exact Ext.refl _ | apply Ext.drewN | apply Ext.drew | apply Ext.alloc | (refine Ext.set ?_ (by first | (simp; done) | (simp; omega) | omega) _) | (refine Ext.trans ?_ (by assumption)))))).at_ (by omega)
      subst hA
      have hc := hcell k hlt
      have hbk := hb1.out k hlt
      clear hcell
      by_cases hx : 0 < xs[k]?.getD 0
      · have HS : Hid (acc fThrown xs (k + 1) = acc fThrown xs k + 1) := by show _ = _; simp only [acc, fThrown]; rw [if_pos hx]
        go_wp2
        go_round
        case rel => exact ⟨k + 1, by omega, by go_num, by rw [HS.out]⟩
        case measure => simp [intOf]; omega
      · have HS : Hid (acc fThrown xs (k + 1) = acc fThrown xs k) := by show _ = _; simp only [acc, fThrown]; rw [if_neg hx, Int.add_zero]
        go_wp2
        go_round
        case rel => exact ⟨k + 1, by omega, by go_num, by rw [HS.out]⟩
        case measure => simp [intOf]; omega
    · obtain rfl : k = n := by omega
      have hy1 := Hy1.out
      have hz1 := Hz1.out
      have hz2 := Hz2.out
      have hy2 := Hy2.out
      have e0 : ¬ z2 = 0 := by omega
      have w1 : IntKind.i64.wrap (acc fThrown xs k * d) = acc fThrown xs k * d := IntWalk.i64_in _ (by omega)
      have w2 : IntKind.i64.wrap (y1 * 1000) = z1 := by rw [hy2]; exact IntWalk.i64_in _ (by omega)
      have w3 : IntKind.i64.wrap (2 * b) = 2 * b := IntWalk.i64_in _ (by omega)
      have w4 : IntKind.i64.wrap (z2) = z2 := IntWalk.i64_in _ (by omega)
      have w5 : IntKind.i64.wrap (z1.tdiv z2) = z1 / z2 := by rw [Int.tdiv_eq_ediv_of_nonneg (by omega)]; exact IntWalk.i64_in _ (by omega)
      go_wp2
      go_quiet ((go_at_call 36; first | with_reducible exact quiet_l (period_any _ _ _ _) | with_reducible exact quiet_la (period_any _ _ _ _)))
      clear w1 w2 w3 w4 w5
      go_wp2
      go_ret2
      exact ⟨rfl, (by with_reducible (repeat (first | exact Ext.refl _ | apply Ext.drewN | apply Ext.drew | apply Ext.alloc | (refine Ext.set ?_ (by first | (simp; done) | (simp; omega) | omega) _) | (refine Ext.trans ?_ (by assumption)))))⟩
end Go.Proofs.Ytbaabghehpcjnaa
