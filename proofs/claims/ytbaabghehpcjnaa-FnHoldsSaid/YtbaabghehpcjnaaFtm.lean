/- For how many ticks props fly: contracts of FlightTimes. No condition but the stated bounds. -/
import Derived.Test.YtbaabghehpcjnaaTcd
import Derived.Test.YtbaabghehpcjnaaRow
import Derived.Deep.RegionHeld3
namespace Go.Proofs.Ytbaabghehpcjnaa
set_option linter.unusedVariables false
set_option linter.unusedSimpArgs false
open Go.RowKit

theorem Own.rebase {w w1 w' : World} {v : Value} {ys : List Int} (h : Own w1 w' v ys) (k : Ext w w1) : Own w w' v ys :=
  ⟨Go.Joins.ownsRow_le h.own k.size, k.trans h.ext⟩
theorem vtim_iff {b d : Int} : vtim b d = true ↔ (2 ≤ b ∧ b ≤ 30) ∧ (1 ≤ d ∧ d ≤ 2 * b) := by
  unfold vtim
  rw [Bool.and_eq_true, btw_iff, btw_iff]
/-- For how many ticks a throw flies. -/
def ftm (b d x : Int) : Int := if 0 < x then x * b - d else 0
def ftms (xs : List Int) (b d : Int) (k : Nat) : List Int := (List.range k).map (fun i => ftm b d (xs[i]?.getD 0))
theorem ftms_len (xs : List Int) (b d : Int) (k : Nat) : (ftms xs b d k).length = k := by simp [ftms]
theorem ftms_succ (xs : List Int) (b d : Int) (k : Nat) : ftms xs b d (k + 1) = ftms xs b d k ++ [ftm b d (xs[k]?.getD 0)] := by simp [ftms, List.range_succ]
/-- What FlightTimes gives. -/
def ftn (xs : List Int) (b d : Int) (n : Nat) : List Int := if tcd (vpat xs) (vtim b d && btw 0 0 0) (fits xs b d) = 0 then ftms xs b d n else []
theorem ftn_bd {xs : List Int} {b d : Int} {n : Nat} (hn : xs.length = n) : (ftn xs b d n).length ≤ n ∧ ∀ y ∈ ftn xs b d n, -9223372036854775808 ≤ y ∧ y ≤ 9223372036854775807 := by
  unfold ftn
  split
  · rename_i h
    obtain ⟨hv, ht, _⟩ := tcd_zero h
    rw [Bool.and_eq_true] at ht
    obtain ⟨hb, hd⟩ := vtim_iff.1 ht.1
    obtain ⟨hx, _, _⟩ := thr_iff.1 (vpat_thr hv)
    refine ⟨by rw [ftms_len]; omega, fun y hy => ?_⟩
    simp only [ftms, List.mem_map, List.mem_range] at hy
    obtain ⟨i, hi, rfl⟩ := hy
    have h1 := hx i (by omega)
    have h2 := prod_bd h1 hb
    unfold ftm
    split <;> omega
  · exact ⟨by simp, by simp⟩
theorem btw000 : btw 0 0 0 = true := by decide
set_option maxHeartbeats 1000000 in
theorem implFlightTimes_ret (A : Option Addr) (n c : Nat) (xs : List Int) (b d : Int) (w : World) (hI : Ints w A n xs) :
    Calls Try.prog 15 #[.slice A n c, .agg #[.int .i64 b, .int .i64 d]] w (RetRow w 2 1 (ftn xs b d n).length (ftn xs b d n) (tcd (vpat xs) (vtim b d && btw 0 0 0) (fits xs b d))) := by
  by_cases hr : tcd (vpat xs) (vtim b d && btw 0 0 0) (fits xs b d) = 0
  · have HF : Hid (ftn xs b d n = ftms xs b d n) := if_pos hr
    obtain ⟨hv, ht, hf⟩ := tcd_zero hr
    rw [btw000, Bool.and_true] at ht hr
    obtain ⟨hb, hd⟩ := vtim_iff.1 ht
    obtain ⟨hX, hl1, hl2⟩ := thr_iff.1 (vpat_thr hv)
    rw [hI.len] at hl1 hl2 hX
    obtain ⟨i0, hi, hz0, hz1, hz2⟩ := info_parts infoInt
    have HR : Hid (tcd (vpat xs) (vtim b d && btw 0 0 0) (fits xs b d) = 0) := by rw [btw000, Bool.and_true]; exact hr
    have HC := Lib.hid hr
    clear hv ht hf hr
    go_enter Try.func15, Try.ntmps15
    go_wp2_with (first | (go_at_call 27; (with_reducible refine (timingCode_is _ _ _ xs b d 0 0 _ (hI.ext (by with_reducible (repeat (first | exact Ext.refl _ | apply Ext.drewN | apply Ext.drew | apply Ext.alloc | (refine Ext.set ?_ (by first | (simp; done) | (simp; omega) | omega) _) | (refine Ext.trans ?_ (by assumption)))))) 0 HR.out).mono ?_); rintro e w1 ⟨rfl, hx⟩; have hz := hx.size; (try simp at hz); (try (have hq0 : w.heap.size < w1.heap.size := by omega)); (try (have hc0 : ∀ o, w1.cell? ⟨w.heap.size, o, none⟩ = _ := fun o => hx.cells.1 _ o (by first | (simp; done) | (simp; omega) | omega))); (try (have hf0 : ∀ o, w1.frozen? ⟨w.heap.size, o, none⟩ = _ := fun o => hx.cells.2 _ o (by first | (simp; done) | (simp; omega) | omega))); (try (have hq1 : w.heap.size + 1 < w1.heap.size := by omega)); (try (have hc1 : ∀ o, w1.cell? ⟨w.heap.size + 1, o, none⟩ = _ := fun o => hx.cells.1 _ o (by first | (simp; done) | (simp; omega) | omega))); (try (have hf1 : ∀ o, w1.frozen? ⟨w.heap.size + 1, o, none⟩ = _ := fun o => hx.cells.2 _ o (by first | (simp; done) | (simp; omega) | omega))); (try (have hq2 : w.heap.size + 2 < w1.heap.size := by omega)); (try (have hc2 : ∀ o, w1.cell? ⟨w.heap.size + 2, o, none⟩ = _ := fun o => hx.cells.1 _ o (by first | (simp; done) | (simp; omega) | omega))); (try (have hf2 : ∀ o, w1.frozen? ⟨w.heap.size + 2, o, none⟩ = _ := fun o => hx.cells.2 _ o (by first | (simp; done) | (simp; omega) | omega)))))
    have cb := hc0 0
    have cd := hc0 1
    simp at cb cd
    clear hc0
    have hxw : Ext w w1 := (by with_reducible (repeat (first | exact Ext.refl _ | apply Ext.drewN | apply Ext.drew | apply Ext.alloc | (refine Ext.set ?_ (by first | (simp; done) | (simp; omega) | omega) _) | (refine Ext.trans ?_ (by assumption)))))
    go_loopw [7, 19, 9] (fun v i _ wr => ∃ k : Nat, k ≤ n ∧ i = .int .i64 k ∧ Own w1 wr v (ftms xs b d k)) (fun _ i _ _ => n - (intOf i).toNat)
    case atStart => exact ⟨0, Nat.zero_le _, rfl, own_empty (Ext.refl _)⟩
    case round =>
      obtain ⟨k, hk, rfl, hown⟩ := hrel
      by_cases hlt : k < n
      · obtain ⟨b', off, rfl, hb', hcell⟩ := (hI.ext (hxw.trans hown.ext)).at_ (by omega)
        have hc := hcell k hlt
        have hbd := hX k hlt
        have hlen : (ftms xs b d k).length ≤ 1000000 := by rw [ftms_len]; omega
        have hcb := (hown.ext.cells.1 w.heap.size 0 hq0).trans cb
        have hcd := (hown.ext.cells.1 w.heap.size 1 hq0).trans cd
        have hs := ftms_succ xs b d k
        have hp := prod_bd hbd hb
        clear hcell
        generalize xs[k]?.getD 0 = x at hc hbd hs hp
        by_cases hx0 : 0 < x
        · have hne : x ≠ 0 := by omega
          have HY : Hid (x * b - d = ftm b d x) := by show _ = _; unfold ftm; rw [if_pos hx0]
          have HS := Lib.hid hs
          clear hs
          go_wp2_with (at_builtin; refine app1 rfl _ _ rfl _ _ _ rfl hown rfl hlen ?_; intro v' w2 hown')
          go_roundw
          case rel => exact ⟨k + 1, by omega, by go_num, by rw [HS.out, ← HY.out]; exact hown'⟩
          case measure => simp [intOf]; omega
        · obtain rfl : x = 0 := by omega
          have HY : Hid (0 = ftm b d 0) := by show _ = _; rfl
          have HS := Lib.hid hs
          clear hs
          go_wp2_with (at_builtin; refine app1 rfl _ _ rfl _ _ _ rfl hown rfl hlen ?_; intro v' w2 hown')
          go_roundw
          case rel => exact ⟨k + 1, by omega, by go_num, by rw [HS.out, ← HY.out]; exact hown'⟩
          case measure => simp [intOf]; omega
      · obtain rfl : k = n := by omega
        obtain ⟨A1, c1, rfl⟩ := hown.forms
        have HT : Hid (RetRow w 2 1 (ftms xs b d k).length (ftms xs b d k) 0 (.returned (.tuple #[.slice A1 (ftms xs b d k).length c1, .int .i64 0])) wr) := RetRow.of_own rfl rfl (hown.rebase hxw)
        go_wp2
        go_ret2
        rw [HF.out, HR.out]
        exact HT.out
  · have HF : Hid (ftn xs b d n = []) := if_neg hr
    have h0 : (tcd (vpat xs) (vtim b d && btw 0 0 0) (fits xs b d) != 0) = true := by simpa using hr
    obtain ⟨r, hr⟩ : ∃ r, tcd (vpat xs) (vtim b d && btw 0 0 0) (fits xs b d) = r := ⟨_, rfl⟩
    rw [hr] at h0
    have HR := Lib.hid hr
    rw [btw000, Bool.and_true] at hr
    have HC := Lib.hid hr
    clear hr
    go_enter Try.func15, Try.ntmps15
    go_wp2_with (first | (go_at_call 27; (with_reducible refine (timingCode_is _ _ _ xs b d 0 0 _ (hI.ext (by with_reducible (repeat (first | exact Ext.refl _ | apply Ext.drewN | apply Ext.drew | apply Ext.alloc | (refine Ext.set ?_ (by first | (simp; done) | (simp; omega) | omega) _) | (refine Ext.trans ?_ (by assumption)))))) r HR.out).mono ?_); rintro e w1 ⟨rfl, hx⟩; have hz := hx.size; (try simp at hz); (try (have hq0 : w.heap.size < w1.heap.size := by omega)); (try (have hc0 : ∀ o, w1.cell? ⟨w.heap.size, o, none⟩ = _ := fun o => hx.cells.1 _ o (by first | (simp; done) | (simp; omega) | omega))); (try (have hf0 : ∀ o, w1.frozen? ⟨w.heap.size, o, none⟩ = _ := fun o => hx.cells.2 _ o (by first | (simp; done) | (simp; omega) | omega))); (try (have hq1 : w.heap.size + 1 < w1.heap.size := by omega)); (try (have hc1 : ∀ o, w1.cell? ⟨w.heap.size + 1, o, none⟩ = _ := fun o => hx.cells.1 _ o (by first | (simp; done) | (simp; omega) | omega))); (try (have hf1 : ∀ o, w1.frozen? ⟨w.heap.size + 1, o, none⟩ = _ := fun o => hx.cells.2 _ o (by first | (simp; done) | (simp; omega) | omega))); (try (have hq2 : w.heap.size + 2 < w1.heap.size := by omega)); (try (have hc2 : ∀ o, w1.cell? ⟨w.heap.size + 2, o, none⟩ = _ := fun o => hx.cells.1 _ o (by first | (simp; done) | (simp; omega) | omega))); (try (have hf2 : ∀ o, w1.frozen? ⟨w.heap.size + 2, o, none⟩ = _ := fun o => hx.cells.2 _ o (by first | (simp; done) | (simp; omega) | omega)))))
    go_ret2
    rw [HF.out, HR.out]
    exact RetRow.of_nil rfl (by with_reducible (repeat (first | exact Ext.refl _ | apply Ext.drewN | apply Ext.drew | apply Ext.alloc | (refine Ext.set ?_ (by first | (simp; done) | (simp; omega) | omega) _) | (refine Ext.trans ?_ (by assumption)))))
end Go.Proofs.Ytbaabghehpcjnaa
