/- Drawn timings: contract of l15Draw. No condition but the stated bounds. -/
import Derived.Test.YtbaabghehpcjnaaMot2
namespace Go.Proofs.Ytbaabghehpcjnaa
set_option linter.unusedVariables false
set_option linter.unusedSimpArgs false
open Go.RowKit Go.Joins

/-- A drawn timing. -/
def DrawnT (w0 w : World) (g : Nat) (A : Option Addr) (n c : Nat) (xs : List Int) (top : Nat) (e : Ending) (w' : World) : Prop :=
  ∃ b d : Int, e = .returned (.agg #[.int .i64 b, .int .i64 d]) ∧ Srd w0 w' g A n c xs top ∧ w.grownBy w' (some g)
theorem pair_at {w : World} {b : Nat} {x y : Value} {t : TypeId} (h : w.heap[b]? = some (.cells #[x, y] t)) : (w.cell? ⟨b, 0, none⟩ = some x ∧ w.cell? ⟨b, 1, none⟩ = some y) ∧ (w.frozen? ⟨b, 0, none⟩ = false ∧ w.frozen? ⟨b, 1, none⟩ = false) :=
  ⟨⟨(cell_of_block h 0).trans rfl, (cell_of_block h 1).trans rfl⟩, unfrozen_of_block h 0, unfrozen_of_block h 1⟩
theorem pair_set0 {w : World} {b : Nat} {x y z : Value} {t : TypeId} (h : w.heap[b]? = some (.cells #[x, y] t)) : (w.setCell ⟨b, 0, none⟩ z).heap[b]? = some (.cells #[z, y] t) := by
  have h1 := block_setCell (i := 0) h z
  rw [show (#[x, y].setIfInBounds 0 z) = #[z, y] by simp [Array.setIfInBounds]] at h1
  exact h1
theorem pair_set1 {w : World} {b : Nat} {x y z : Value} {t : TypeId} (h : w.heap[b]? = some (.cells #[x, y] t)) : (w.setCell ⟨b, 1, none⟩ z).heap[b]? = some (.cells #[x, z] t) := by
  have h1 := block_setCell (i := 1) h z
  rw [show (#[x, y].setIfInBounds 1 z) = #[x, z] by simp [Array.setIfInBounds]] at h1
  exact h1
theorem ints_new (w : World) (ys : List Int) (t : TypeId) (hn : ys.length ≤ 1000) (hb : ∀ y ∈ ys, -9223372036854775808 ≤ y ∧ y ≤ 9223372036854775807) : Ints (w.alloc (.cells (ys.map (Value.int .i64)).toArray t)) (some ⟨w.heap.size, 0, none⟩) ys.length ys :=
  ⟨rfl, by omega, hb, fun _ => ⟨w.heap.size, 0, rfl, by simp, fun i hi => by
    rw [Nat.zero_add]
    refine (cell_of_block (heap_alloc_new w _) i).trans ?_
    simp [List.getElem?_eq_getElem hi]⟩⟩
theorem Ints.block_lt {w : World} {B : Option Addr} {m : Nat} {ys : List Int} (h : Ints w B m ys) (hm : 0 < m) {a : Addr} (e : B = some a) : a.block < w.heap.size := by
  obtain ⟨b, off, eb, hb, _⟩ := h.at_ hm
  rw [eb] at e; cases e; exact hb
theorem ints_other {w : World} {B : Option Addr} {m : Nat} {ys : List Int} (h : Ints w B m ys) {p : Addr} (hp : ∀ a, B = some a → 0 < m → a.block ≠ p.block) (u : Value) : Ints (w.setCell p u) B m ys :=
  ⟨h.len, h.small, h.bds, fun hn => (ints_far h (only_setCell (World.grownBy.refl w (some p.block)) rfl u) (fun a e => hp a e hn)).at_ hn⟩
set_option maxHeartbeats 4000000 in
set_option maxRecDepth 100000 in
theorem l15Draw_any (B : Option Addr) (m d : Nat) (ys : List Int) (w0 w : World) (g : Nat) (A : Option Addr) (n c : Nat) (xs : List Int) (top : Nat) (h : Srd w0 w g A n c xs top) (ht : top ≤ 900000000) (hI : Ints w B m ys) (hm : m ≤ 20) (hbd : ∀ i, i < m → -20 ≤ ys[i]?.getD 0 ∧ ys[i]?.getD 0 ≤ 16) (hne : ∀ a, B = some a → a.block ≠ g) :
    Calls Try.prog 48 #[.pointer (some ⟨g, 0, none⟩), .slice B m d] w (DrawnT w0 w g A n c xs (top + 12)) := by
  have hlt := h.lt
  have hborn := h.born
  have HBD := Lib.hid hbd
  clear hbd
  go_enter Try.func48, Try.ntmps48
  go_wp2_with fail
  (with_reducible refine (pick_any 14 w0 _ g A n c xs top (h.after (by with_reducible (repeat (first | exact Ext.refl _ | apply Ext.drewN | apply Ext.drew | apply Ext.alloc | (refine Ext.set ?_ (by first | (simp; done) | (simp; omega) | omega) _) | (refine Ext.trans ?_ (by assumption)))))) (by omega)).mono ?_)
  rintro e w1 ⟨x, rfl, hx, hs1, hg1⟩
  have hr1 := block_far hg1 (heap_alloc_new w _) (by omega)
  have hI1 := ints_far (hI.ext (show Ext w (w.alloc _) from (by with_reducible (repeat (first | exact Ext.refl _ | apply Ext.drewN | apply Ext.drew | apply Ext.alloc | (refine Ext.set ?_ (by first | (simp; done) | (simp; omega) | omega) _) | (refine Ext.trans ?_ (by assumption))))))) hg1 hne
  have hG1 := grown_trans (grown_alloc (World.grownBy.refl w (some g)) _) hg1
  have hz1 := hg1.size
  simp at hz1
  obtain ⟨b, hb⟩ : ∃ b, 2 + x = b := ⟨_, rfl⟩
  have hb15 : 2 ≤ b ∧ b ≤ 15 := by omega
  have hbw : IntKind.i64.wrap (2 + x) = b := by rw [hb]; exact IntWalk.i64_in _ (by omega)
  go_wp2_with fail
  (with_reducible refine (l15Most_low B m d ys b _ (hI1.ext (by with_reducible (repeat (first | exact Ext.refl _ | apply Ext.drewN | apply Ext.drew | apply Ext.alloc | (refine Ext.set ?_ (by first | (simp; done) | (simp; omega) | omega) _) | (refine Ext.trans ?_ (by assumption)))))) HBD.out hm (by omega)).mono ?_)
  rintro e w2' ⟨y, rfl, hy, rfl⟩
  have hcm : 1 ≤ cmf 1 y ∧ cmf 1 y ≤ 60 := by unfold cmf; split <;> omega
  go_wp2_with (first | (go_at_call 46; (with_reducible refine (l00Max_any _ _ _).mono ?_); rintro e w' ⟨rfl, rfl⟩))
  generalize cmf 1 y = z at *
  (with_reducible refine (pick_any z w0 _ g A n c xs _ (hs1.after (by with_reducible (repeat (first | exact Ext.refl _ | apply Ext.drewN | apply Ext.drew | apply Ext.alloc | (refine Ext.set ?_ (by first | (simp; done) | (simp; omega) | omega) _) | (refine Ext.trans ?_ (by assumption)))))) (by omega)).mono ?_)
  rintro e w3 ⟨x3, rfl, hx3, hs3, hg3⟩
  have hr3 := block_far hg3 (block_ext hr1 (by with_reducible (repeat (first | exact Ext.refl _ | apply Ext.drewN | apply Ext.drew | apply Ext.alloc | (refine Ext.set ?_ (by first | (simp; done) | (simp; omega) | omega) _) | (refine Ext.trans ?_ (by assumption)))))) (by omega)
  have hf3 := block_far hg3 (heap_alloc_new w1 _) (by omega)
  have hI3 := ints_far (hI1.ext (show Ext w1 (w1.alloc _) from (by with_reducible (repeat (first | exact Ext.refl _ | apply Ext.drewN | apply Ext.drew | apply Ext.alloc | (refine Ext.set ?_ (by first | (simp; done) | (simp; omega) | omega) _) | (refine Ext.trans ?_ (by assumption))))))) hg3 hne
  have hG3 := grown_trans (grown_alloc hG1 _) hg3
  have hz3 := hg3.size
  simp at hz3
  obtain ⟨⟨q0, q1⟩, f0, f1⟩ := pair_at hf3
  go_wp2_with fail
  obtain ⟨d1, hd1⟩ : ∃ d1, 1 + x3 = d1 := ⟨_, rfl⟩
  rw [hd1]
  have hf4 := pair_set1 hf3 (z := .int .i64 d1)
  have hr4 := block_other hr3 (p := ⟨w1.heap.size, 1, none⟩) (by show w1.heap.size ≠ w.heap.size; omega) (.int .i64 d1)
  have hG4 := grown_set hG3 (p := ⟨w1.heap.size, 1, none⟩) (by show w.heap.size ≤ w1.heap.size; omega) (.int .i64 d1)
  have hI4 := ints_other hI3 (p := ⟨w1.heap.size, 1, none⟩) (fun a e hm => by have h1 : a.block < w.heap.size := hI.block_lt hm e; show a.block ≠ w1.heap.size; omega) (.int .i64 d1)
  have hs4 := hs3.set (p := ⟨w1.heap.size, 1, none⟩) (by show w0.heap.size ≤ w1.heap.size; omega) (by show w1.heap.size ≠ g; omega) (.int .i64 d1)
  have hz4 : w1.heap.size + 1 ≤ (w3.setCell ⟨w1.heap.size, 1, none⟩ (.int .i64 d1)).heap.size := by simpa [World.setCell] using hz3
  clear q0 q1 f0 f1 hf3 hr3 hG3 hI3
  generalize w3.setCell ⟨w1.heap.size, 1, none⟩ (.int .i64 d1) = w4 at *
  (with_reducible refine (pick_any 20 w0 _ g A n c xs _ hs4 (by omega)).mono ?_)
  rintro e w5 ⟨x5, rfl, hx5, hs5, hg5⟩
  have hf5 := block_far hg5 hf4 (by omega)
  have hr5 := block_far hg5 hr4 (by omega)
  have hG5 := grown_trans hG4 hg5
  have hz5 := hg5.size
  have hx5c : x5 = 0 ∨ x5 = 1 ∨ 2 ≤ x5 := by omega
  rcases hx5c with rfl | rfl | hx2
  · have hlt5 := hs5.lt
    go_wp2_with fail
    (with_reducible refine (among_any _ 5 _ [1, 2, 30, 31, -9223372036854775808] w0 _ g A n c xs _ (hs5.after (by with_reducible (repeat (first | exact Ext.refl _ | apply Ext.drewN | apply Ext.drew | apply Ext.alloc | (refine Ext.set ?_ (by first | (simp; done) | (simp; omega) | omega) _) | (refine Ext.trans ?_ (by assumption)))))) (by omega) (ints_new w5 [1, 2, 30, 31, -9223372036854775808] _ (by simp) (by simp)) (by omega) (by rintro a e; cases e; show w5.heap.size ≠ g; omega)).mono ?_)
    rintro e w6 ⟨v, rfl, hv, hs6, hg6⟩
    have hf6 := block_far hg6 (block_ext hf5 (by with_reducible (repeat (first | exact Ext.refl _ | apply Ext.drewN | apply Ext.drew | apply Ext.alloc | (refine Ext.set ?_ (by first | (simp; done) | (simp; omega) | omega) _) | (refine Ext.trans ?_ (by assumption)))))) (by omega)
    have hr6 := block_far hg6 (block_ext hr5 (by with_reducible (repeat (first | exact Ext.refl _ | apply Ext.drewN | apply Ext.drew | apply Ext.alloc | (refine Ext.set ?_ (by first | (simp; done) | (simp; omega) | omega) _) | (refine Ext.trans ?_ (by assumption)))))) (by omega)
    have hG6 := grown_trans (grown_alloc hG5 _) hg6
    have hz6 := hg6.size
    simp at hz6
    obtain ⟨⟨q0, q1⟩, f0, f1⟩ := pair_at hf6
    obtain ⟨⟨r0, r1⟩, s0, s1⟩ := pair_at hr6
    have HS : Hid (Srd w0 w6 g A n c xs (top + 12)) := hs6.more (by omega)
    have HG := Lib.hid hG6
    clear hf6 hr6 hG6 hs6 hg6 hv
    go_wp2
    refine bodyPost_ret (v := .agg #[.int .i64 v, .int .i64 d1]) (by simp [results, Try.results48, go_sem, *]) rfl ⟨v, d1, rfl, ?_, ?_⟩
    · (repeat (first | refine Srd.set ?_ (by show w0.heap.size ≤ w.heap.size; omega) (by show w.heap.size ≠ g; omega) _ | refine Srd.set ?_ (by show w0.heap.size ≤ w1.heap.size; omega) (by show w1.heap.size ≠ g; omega) _))
      exact HS.out
    · (repeat (first | refine grown_set ?_ (by show w.heap.size ≤ w.heap.size; omega) _ | refine grown_set ?_ (by show w.heap.size ≤ w1.heap.size; omega) _))
      exact HG.out
  · have hlt5 := hs5.lt
    obtain ⟨⟨q0, q1⟩, f0, f1⟩ := pair_at hf5
    have e1 : IntKind.i64.wrap (2 * b) = 2 * b := IntWalk.i64_in _ (by omega)
    have e2 : IntKind.i64.wrap (2 * b + 1) = 2 * b + 1 := IntWalk.i64_in _ (by omega)
    go_wp2_with fail
    (with_reducible refine (among_any _ 4 _ [0, 1, 2 * b, 2 * b + 1] w0 _ g A n c xs _ (hs5.after (by with_reducible (repeat (first | exact Ext.refl _ | apply Ext.drewN | apply Ext.drew | apply Ext.alloc | (refine Ext.set ?_ (by first | (simp; done) | (simp; omega) | omega) _) | (refine Ext.trans ?_ (by assumption)))))) (by omega) (ints_new w5 [0, 1, 2 * b, 2 * b + 1] _ (by simp) (by simp; omega)) (by omega) (by rintro a e; cases e; show w5.heap.size ≠ g; omega)).mono ?_)
    clear q0 q1 f0 f1
    rintro e w6 ⟨v, rfl, hv, hs6, hg6⟩
    have hf6 := block_far hg6 (block_ext hf5 (by with_reducible (repeat (first | exact Ext.refl _ | apply Ext.drewN | apply Ext.drew | apply Ext.alloc | (refine Ext.set ?_ (by first | (simp; done) | (simp; omega) | omega) _) | (refine Ext.trans ?_ (by assumption)))))) (by omega)
    have hr6 := block_far hg6 (block_ext hr5 (by with_reducible (repeat (first | exact Ext.refl _ | apply Ext.drewN | apply Ext.drew | apply Ext.alloc | (refine Ext.set ?_ (by first | (simp; done) | (simp; omega) | omega) _) | (refine Ext.trans ?_ (by assumption)))))) (by omega)
    have hG6 := grown_trans (grown_alloc hG5 _) hg6
    have hz6 := hg6.size
    simp at hz6
    obtain ⟨⟨q0, q1⟩, f0, f1⟩ := pair_at hf6
    obtain ⟨⟨r0, r1⟩, s0, s1⟩ := pair_at hr6
    have HS : Hid (Srd w0 w6 g A n c xs (top + 12)) := hs6.more (by omega)
    have HG := Lib.hid hG6
    clear hf6 hr6 hG6 hs6 hg6 hv
    go_wp2
    refine bodyPost_ret (v := .agg #[.int .i64 b, .int .i64 v]) (by simp [results, Try.results48, go_sem, *]) rfl ⟨b, v, rfl, ?_, ?_⟩
    · (repeat (first | refine Srd.set ?_ (by show w0.heap.size ≤ w.heap.size; omega) (by show w.heap.size ≠ g; omega) _ | refine Srd.set ?_ (by show w0.heap.size ≤ w1.heap.size; omega) (by show w1.heap.size ≠ g; omega) _))
      exact HS.out
    · (repeat (first | refine grown_set ?_ (by show w.heap.size ≤ w.heap.size; omega) _ | refine grown_set ?_ (by show w.heap.size ≤ w1.heap.size; omega) _))
      exact HG.out
  · have n0 : (x5 == 0) = false := by simp; omega
    have n1 : (x5 == 1) = false := by simp; omega
    obtain ⟨⟨q0, q1⟩, f0, f1⟩ := pair_at hf5
    obtain ⟨⟨r0, r1⟩, s0, s1⟩ := pair_at hr5
    have HS : Hid (Srd w0 w5 g A n c xs (top + 12)) := hs5.more (by omega)
    have HG := Lib.hid hG5
    clear hf5 hr5 hG5 hs5 hg5
    go_wp2
    refine bodyPost_ret (v := .agg #[.int .i64 b, .int .i64 d1]) (by simp [results, Try.results48, go_sem, *]) rfl ⟨b, d1, rfl, ?_, ?_⟩
    · (repeat (first | refine Srd.set ?_ (by show w0.heap.size ≤ w.heap.size; omega) (by show w.heap.size ≠ g; omega) _ | refine Srd.set ?_ (by show w0.heap.size ≤ w1.heap.size; omega) (by show w1.heap.size ≠ g; omega) _))
      exact HS.out
    · (repeat (first | refine grown_set ?_ (by show w.heap.size ≤ w.heap.size; omega) _ | refine grown_set ?_ (by show w.heap.size ≤ w1.heap.size; omega) _))
      exact HG.out
end Go.Proofs.Ytbaabghehpcjnaa
