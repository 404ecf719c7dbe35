/- Motions: contract of A2Motion. No condition but the stated bounds. -/
import Derived.Test.YtbaabghehpcjnaaMot4
import Derived.Test.YtbaabghehpcjnaaFlo
namespace Go.Proofs.Ytbaabghehpcjnaa
set_option linter.unusedVariables false
set_option linter.unusedSimpArgs false
open Go.RowKit Go.Joins

/-- A pattern with a timing that fits it, and a width. -/
def Motion (w : World) (e : Ending) (w' : World) : Prop :=
  ∃ (B : Option Addr) (m d : Nat) (ys : List Int) (b dd wd : Int), e = .returned (.tuple #[.slice B m d, .agg #[.int .i64 b, .int .i64 dd], .int .i64 wd]) ∧ Ints w' B m ys ∧ vpat ys = true ∧ vtim b dd = true ∧ fits ys b dd = true ∧ Ext w w'
theorem ints_new' (w : World) (k : Nat) (ys : List Int) (t : TypeId) (hk : k = w.heap.size) (hn : ys.length ≤ 1000) (hb : ∀ y ∈ ys, -9223372036854775808 ≤ y ∧ y ≤ 9223372036854775807) : Ints (w.alloc (.cells (ys.map (Value.int .i64)).toArray t)) (some ⟨k, 0, none⟩) ys.length ys := by
  subst hk
  exact ints_new w ys t hn hb
set_option maxHeartbeats 4000000 in
set_option maxRecDepth 100000 in
theorem A2Motion_any (A : Option Addr) (n c : Nat) (xs : List Int) (w : World) (hB : Byts w A n xs) :
    Calls Try.prog 6 #[.slice A n c] w (Motion w) := by
  go_enter Try.func6, Try.ntmps6
  go_wp2_with fail
  (with_reducible refine (l00From_any A n c xs _ (hB.ext (by with_reducible (repeat (first | exact Ext.refl _ | apply Ext.drewN | apply Ext.drew | apply Ext.alloc | (refine Ext.set ?_ (by first | (simp; done) | (simp; omega) | omega) _) | (refine Ext.trans ?_ (by assumption))))))).mono ?_)
  rintro e w1 ⟨g, rfl, hs1, hg⟩
  have hz1 := hs1.ext.size
  simp at hz1 hg
  subst hg
  have hr1 := block_ext (heap_alloc_new w (.cells #[.int .i64 0, .int .i64 0] 26)) hs1.ext
  go_wp2
  go_loopw [6, 7, 8, 9] (fun i _ _ _ wr => ∃ k : Nat, k ≤ 6 ∧ i = .int .i64 k ∧ Srd (w.alloc (.cells #[.int .i64 0, .int .i64 0] 26)) wr (w.heap.size + 1) A n c xs (600 * k)) (fun i _ _ _ _ => 6 - (intOf i).toNat)
  case atStart => exact ⟨0, by omega, rfl, hs1.more (by omega)⟩
  case round =>
    obtain ⟨k, hk, rfl, hs⟩ := hrel
    clear hs1 hz1 hr1
    by_cases hk6 : k < 6
    · have hki : (k : Int) < 6 := by omega
      go_wp2_with fail
      (with_reducible refine (l16Three_any _ _ _ A n c xs _ hs (by omega)).mono ?_)
      rintro e w2 ⟨B, m, d, ys, b, dd, wd, rfl, hown, hm, hbd, hs2, hg2⟩
      have hI := own_intsM hown (by omega) (fun y hy => by have := hbd y hy; omega)
      have hlt2 := hs2.lt
      have HK : Hid (∀ a, B = some a → wr.heap.size ≤ a.block) := fun a e => (own_block hown a e).1
      have hltr := hs.lt
      clear hown hbd hg2
      go_wp2_with fail
      (with_reducible refine (l16Ask_any B m d ys b dd wd true _ (hI.ext (by with_reducible (repeat (first | exact Ext.refl _ | apply Ext.drewN | apply Ext.drew | apply Ext.alloc | (refine Ext.set ?_ (by first | (simp; done) | (simp; omega) | omega) _) | (refine Ext.trans ?_ (by assumption))))))).mono ?_)
      rintro e w3 ⟨rfl, hx3⟩
      have hX : Ext w2 w3 := Ext.trans (show Ext w2 (w2.alloc _) from (by with_reducible (repeat (first | exact Ext.refl _ | apply Ext.drewN | apply Ext.drew | apply Ext.alloc | (refine Ext.set ?_ (by first | (simp; done) | (simp; omega) | omega) _) | (refine Ext.trans ?_ (by assumption)))))) hx3
      have hr3 := block_ext (heap_alloc_new w (.cells #[.int .i64 0, .int .i64 0] 26)) (Ext.trans hs2.ext hX)
      have hf3 := block_ext (heap_alloc_new w2 (.cells #[.int .i64 b, .int .i64 dd] 26)) hx3
      have hz3 := hX.size
      have hI3 := hI.ext hX
      have hs3 := hs2.after hX
      obtain ⟨⟨q0, q1⟩, f0, f1⟩ := pair_at hf3
      obtain ⟨⟨r0, r1⟩, s0, s1⟩ := pair_at hr3
      clear hx3 hs2 hr3 hf3 hI hX
      by_cases hc : tcd (vpat ys) (vtim b dd && (true && btw wd 0 16)) (fits ys b dd && fl40 ys b dd) = 0
      · rw [hc]
        obtain ⟨hv, htt, hff⟩ := tcd_zero hc
        rw [Bool.and_eq_true] at htt hff
        have HF : Hid (vpat ys = true ∧ vtim b dd = true ∧ fits ys b dd = true) := ⟨hv, htt.1, hff.1⟩
        have HE : Hid (Ext w w3) := Ext.trans (show Ext w (w.alloc _) from (by with_reducible (repeat (first | exact Ext.refl _ | apply Ext.drewN | apply Ext.drew | apply Ext.alloc | (refine Ext.set ?_ (by first | (simp; done) | (simp; omega) | omega) _) | (refine Ext.trans ?_ (by assumption)))))) hs3.ext
        have HI : Hid (Ints w3 B m ys) := hI3
        have hwt : w.heap.size < w2.heap.size := by omega
        have hwt2 : ¬ w.heap.size = w2.heap.size := by omega
        clear hc hv htt hff hs3 hI3
        go_wp2_with fail
        go_region
        go_wp2
        refine bodyPost_ret (v := .tuple #[.slice B m d, .agg #[.int .i64 b, .int .i64 dd], .int .i64 wd]) (by simp [results, Try.results6, go_sem, *]) rfl ⟨B, m, d, ys, b, dd, wd, rfl, ?_, HF.out.1, HF.out.2.1, HF.out.2.2, ?_⟩
        · refine Ints.ext ?_ ((Ext.refl _).drew)
          (repeat (refine ints_other ?_ (fun a e hm => by have := HK.out a e; show a.block ≠ w.heap.size; omega) _))
          exact HI.out
        · refine Ext.drew ?_
          (repeat (refine Ext.set ?_ (by show w.heap.size ≤ w.heap.size; omega) _))
          exact HE.out
      · have hcb : (tcd (vpat ys) (vtim b dd && (true && btw wd 0 16)) (fits ys b dd && fl40 ys b dd) == 0) = false := by simpa using hc
        generalize tcd (vpat ys) (vtim b dd && (true && btw wd 0 16)) (fits ys b dd && fl40 ys b dd) = r at *
        clear q0 q1 f0 f1 r0 r1 s0 s1
        go_wp2
        go_roundw
        case rel => exact ⟨k + 1, by omega, by go_num, hs3.more (by omega)⟩
        case measure => simp [intOf]; omega
    · obtain rfl : k = 6 := by omega
      have hr3 := block_ext (heap_alloc_new w (.cells #[.int .i64 0, .int .i64 0] 26)) hs.ext
      obtain ⟨⟨r0, r1⟩, s0, s1⟩ := pair_at hr3
      have hzr := hs.lt
      have hwr : w.heap.size < wr.heap.size := by omega
      have hwr2 : ¬ wr.heap.size = w.heap.size := by omega
      have HE : Hid (Ext w wr) := Ext.trans (show Ext w (w.alloc _) from (by with_reducible (repeat (first | exact Ext.refl _ | apply Ext.drewN | apply Ext.drew | apply Ext.alloc | (refine Ext.set ?_ (by first | (simp; done) | (simp; omega) | omega) _) | (refine Ext.trans ?_ (by assumption)))))) hs.ext
      clear hr3 hs
      go_wp2
      refine bodyPost_ret (v := .tuple #[.slice (some ⟨wr.heap.size, 0, none⟩) 1 1, .agg #[.int .i64 4, .int .i64 2], .int .i64 5]) (by simp [results, Try.results6, go_sem, *]) rfl ⟨_, 1, 1, [3], 4, 2, 5, rfl, ?_, by decide, by decide, by decide, ?_⟩
      · exact ints_new' _ wr.heap.size [3] _ (by simp [World.setCell]) (by simp) (by simp)
      · refine Ext.alloc ?_ _
        (repeat (refine Ext.set ?_ (by show w.heap.size ≤ w.heap.size; omega) _))
        exact HE.out
end Go.Proofs.Ytbaabghehpcjnaa
