/- Drawn flights: contracts of l16Draw, A2Flight, a2At, a2Long. No condition but the stated bounds. -/
import Derived.Test.YtbaabghehpcjnaaLsr
import Derived.Test.YtbaabghehpcjnaaHgt2
import Derived.Test.YtbaabghehpcjnaaBak
import Derived.Deep.RegionHeld3
namespace Go.Proofs.Ytbaabghehpcjnaa
set_option linter.unusedVariables false
set_option linter.unusedSimpArgs false
open Go.RowKit Go.Joins

theorem Srd.ne {w0 w : World} {g n c top : Nat} {A : Option Addr} {xs : List Int} (h : Srd w0 w g A n c xs top) : ∀ b, w.heap.size ≤ b → b ≠ g := fun b hb => by have := h.lt; omega
theorem a2Long_any (A B : Option Addr) (n c m d : Nat) (w : World) (hn : n ≤ 9223372036854775807) (hm : m ≤ 9223372036854775807) :
    Calls Try.prog 5 #[.slice A n c, .slice B m d] w fun e w' => e = .returned (.bool (decide (3000 < n) || decide (3000 < m))) ∧ w = w' := by
  by_cases h1 : 3000 < n
  · have h1i : (3000 : Int) < n := by omega
    go_enter Try.func5, Try.ntmps5
    go_wp2
    go_ret
    exact ⟨by simp [h1], rfl⟩
  · have h1i : ¬ (3000 : Int) < n := by omega
    by_cases h2 : 3000 < m
    · have h2i : (3000 : Int) < m := by omega
      go_enter Try.func5, Try.ntmps5
      go_wp2
      go_ret
      exact ⟨by simp [h1, h2], rfl⟩
    · have h2i : ¬ (3000 : Int) < m := by omega
      go_enter Try.func5, Try.ntmps5
      go_wp2
      go_ret
      exact ⟨by simp [h1, h2], rfl⟩
theorem a2At_any (A : Option Addr) (n c : Nat) (xs : List Int) (k : Nat) (m : Int) (w : World) (hB : Byts w A n xs) (hm : m ≤ 1000000) (hk : k ≤ 1000) (hm0 : -1000000 ≤ m) :
    Calls Try.prog 8 #[.slice A n c, .int .i64 k, .int .i64 m] w fun e w' => ∃ x : Int, e = .returned (.int .i64 x) ∧ 0 ≤ x ∧ x ≤ 255 ∧ (x < m ∨ x = 0) ∧ w = w' := by
  have hsm := hB.small
  by_cases h1 : n ≤ k
  · have h1i : (n : Int) ≤ k := by omega
    go_enter Try.func8, Try.ntmps8
    go_wp2
    go_ret
    exact ⟨0, rfl, by omega, by omega, by omega, rfl⟩
  · have h1i : ¬ (n : Int) ≤ k := by omega
    have h1j : (k : Int) < n := by omega
    by_cases h2 : m < 1
    · go_enter Try.func8, Try.ntmps8
      go_wp2
      go_ret
      exact ⟨0, rfl, by omega, by omega, by omega, rfl⟩
    · obtain ⟨b, off, rfl, hb, hcell⟩ := hB.at_ (by omega)
      have c1 := hcell k (by omega)
      have hx := hB.bds k (by omega)
      generalize xs[k]?.getD 0 = x at *
      clear hcell
      have e1 := Int.emod_nonneg x (show m ≠ 0 by omega)
      have e2 := Int.emod_lt_of_pos x (show 0 < m by omega)
      have e3 : x % m ≤ x := by have h1 := Int.emod_add_mul_ediv x m; have h2 : 0 ≤ x / m := Int.ediv_nonneg hx.1 (by omega); have h3 : 0 ≤ m * (x / m) := Int.mul_nonneg (by omega) h2; omega
      go_enter Try.func8, Try.ntmps8
      go_wp2
      go_ret
      exact ⟨x % m, rfl, by omega, by omega, by omega, rfl⟩
theorem a2At_is (A : Option Addr) (n c : Nat) (xs : List Int) (k : Nat) (q m : Int) (w : World) (hB : Byts w A n xs) (hq : q = k) (hm : m ≤ 1000000) (hk : k ≤ 1000) (hm0 : -1000000 ≤ m) :
    Calls Try.prog 8 #[.slice A n c, .int .i64 q, .int .i64 m] w fun e w' => ∃ x : Int, e = .returned (.int .i64 x) ∧ 0 ≤ x ∧ x ≤ 255 ∧ (x < m ∨ x = 0) ∧ w = w' := by
  subst hq
  exact a2At_any A n c xs k m w hB hm hk hm0
/-- A drawn flight. -/
def DrawnF (w0 w : World) (g : Nat) (A : Option Addr) (n c : Nat) (xs : List Int) (top : Nat) (e : Ending) (w' : World) : Prop :=
  ∃ x1 x2 t1 t2 : Int, e = .returned (.agg #[.int .i64 x1, .int .i64 x2, .int .i64 t1, .int .i64 t2]) ∧ ((-50 ≤ x1 ∧ x1 ≤ 50) ∧ (-50 ≤ x2 ∧ x2 ≤ 50) ∧ (-10 ≤ t1 ∧ t1 ≤ 20) ∧ (t1 + 1 ≤ t2 ∧ t2 ≤ t1 + 40)) ∧ Srd w0 w' g A n c xs top ∧ w.grownBy w' (some g)
theorem grown_alloc {a w : World} {row : Option Nat} (h : a.grownBy w row) (o : Obj) : a.grownBy (w.alloc o) row :=
  ⟨h.os, h.tape, h.output, Nat.le_trans h.size (by simp), fun i hi hne => (Below.block (Ext.alloc (Ext.refl w) o) i (Nat.lt_of_lt_of_le hi h.size)).trans (h.block i hi hne)⟩
theorem grown_set {a w : World} {row : Option Nat} (h : a.grownBy w row) {p : Addr} (hp : a.heap.size ≤ p.block) (u : Value) : a.grownBy (w.setCell p u) row :=
  ⟨h.os, h.tape, h.output, by simpa [World.setCell] using h.size, fun i hi hne => (Below.heap_setCell w p u i (by omega)).trans (h.block i hi hne)⟩
theorem Srd.set {w0 w : World} {g n c top : Nat} {A : Option Addr} {xs : List Int} (h : Srd w0 w g A n c xs top) {p : Addr} (hp : w0.heap.size ≤ p.block) (hne : p.block ≠ g) (u : Value) : Srd w0 (w.setCell p u) g A n c xs top := by
  obtain ⟨q, z, h1, h2, h3, hb⟩ := h.at_
  exact ⟨h.byts, h.born, h.ext.set hp u, q, z, h1, h2, h3, (Below.heap_setCell w p u g (fun e => hne e.symm)).trans hb⟩
theorem block_far {w w' : World} {g b : Nat} {o : Obj} (k : w.grownBy w' (some g)) (hb : w.heap[b]? = some o) (hne : b ≠ g) : w'.heap[b]? = some o :=
  (k.block b (Array.getElem?_eq_some_iff.1 hb).1 (by rintro e; cases e; exact hne rfl)).trans hb
theorem block_other {w : World} {b : Nat} {o : Obj} (hb : w.heap[b]? = some o) {p : Addr} (hne : p.block ≠ b) (u : Value) : (w.setCell p u).heap[b]? = some o :=
  (Below.heap_setCell w p u b (fun e => hne e.symm)).trans hb
theorem block_ext {w w' : World} {b : Nat} {o : Obj} (hb : w.heap[b]? = some o) (k : Ext w w') : w'.heap[b]? = some o :=
  (Below.block k b (Array.getElem?_eq_some_iff.1 hb).1).trans hb
set_option maxHeartbeats 4000000 in
set_option maxRecDepth 100000 in
theorem l16Draw_any (w0 w : World) (g : Nat) (A : Option Addr) (n c : Nat) (xs : List Int) (top : Nat) (h : Srd w0 w g A n c xs top) (ht : top ≤ 900000000) :
    Calls Try.prog 37 #[.pointer (some ⟨g, 0, none⟩)] w (DrawnF w0 w g A n c xs (top + 12)) := by
  have hlt := h.lt
  have hborn := h.born
  go_enter Try.func37, Try.ntmps37
  go_wp2_with fail
  (with_reducible refine (pick_any 41 w0 _ g A n c xs top (h.after (by with_reducible (repeat (first | exact Ext.refl _ | apply Ext.drewN | apply Ext.drew | apply Ext.alloc | (refine Ext.set ?_ (by first | (simp; done) | (simp; omega) | omega) _) | (refine Ext.trans ?_ (by assumption)))))) (by omega)).mono ?_)
  rintro e w1 ⟨a, rfl, ha, hs1, hg1⟩
  have hr1 := block_far hg1 (heap_alloc_new w _) (by omega)
  have hG1 := grown_trans (grown_alloc (World.grownBy.refl w (some g)) _) hg1
  have hz1 := hg1.size
  simp at hz1
  go_wp2_with fail
  (with_reducible refine (pick_any 30 w0 _ g A n c xs _ hs1 (by omega)).mono ?_)
  rintro e w2 ⟨b, rfl, hb, hs2, hg2⟩
  have hr2 := block_far hg2 hr1 (by omega)
  have hG2 := grown_trans hG1 hg2
  have hz2 := hg2.size
  have hlt2 := hs2.lt
  go_wp2_with fail
  (with_reducible refine (pick_any 41 w0 _ g A n c xs _ (hs2.after (by with_reducible (repeat (first | exact Ext.refl _ | apply Ext.drewN | apply Ext.drew | apply Ext.alloc | (refine Ext.set ?_ (by first | (simp; done) | (simp; omega) | omega) _) | (refine Ext.trans ?_ (by assumption)))))) (by omega)).mono ?_)
  rintro e w3 ⟨d, rfl, hd, hs3, hg3⟩
  have hr3 := block_far hg3 (block_ext hr2 (by with_reducible (repeat (first | exact Ext.refl _ | apply Ext.drewN | apply Ext.drew | apply Ext.alloc | (refine Ext.set ?_ (by first | (simp; done) | (simp; omega) | omega) _) | (refine Ext.trans ?_ (by assumption)))))) (by omega)
  have hf3 := block_far hg3 (heap_alloc_new w2 _) (by omega)
  have hG3 := grown_trans (grown_alloc hG2 _) hg3
  have hz3 := hg3.size
  simp at hz3
  have q1 : w3.cell? ⟨w2.heap.size, 1, none⟩ = some (.int .i64 0) := (cell_of_block hf3 1).trans rfl
  have f1 : w3.frozen? ⟨w2.heap.size, 1, none⟩ = false := unfrozen_of_block hf3 1
  go_wp2
  have hf4 := block_setCell (i := 1) hf3 (.int .i64 (d - 20))
  have e4 : (#[Value.int .i64 (a - 20), .int .i64 0, .int .i64 (b - 10), .int .i64 0].setIfInBounds 1 (.int .i64 (d - 20))) = #[.int .i64 (a - 20), .int .i64 (d - 20), .int .i64 (b - 10), .int .i64 0] := by simp [Array.setIfInBounds]
  rw [e4] at hf4
  have hr4 := block_other hr3 (p := ⟨w2.heap.size, 1, none⟩) (by show w2.heap.size ≠ w.heap.size; omega) (.int .i64 (d - 20))
  have hG4 := grown_set hG3 (p := ⟨w2.heap.size, 1, none⟩) (by show w.heap.size ≤ w2.heap.size; omega) (.int .i64 (d - 20))
  have hs4 := hs3.apart (only_setCell (World.grownBy.refl w3 (some w2.heap.size)) (p := ⟨w2.heap.size, 1, none⟩) rfl (.int .i64 (d - 20))) (by intro e; cases e; omega) (hs3.ext.set (p := ⟨w2.heap.size, 1, none⟩) (by show w0.heap.size ≤ w2.heap.size; omega) _)
  have hz4 : w2.heap.size + 1 ≤ (w3.setCell ⟨w2.heap.size, 1, none⟩ (.int .i64 (d - 20))).heap.size := by simpa [World.setCell] using hz3
  clear e4 q1 f1 hf3 hr3 hG3
  generalize w3.setCell ⟨w2.heap.size, 1, none⟩ (.int .i64 (d - 20)) = w4 at *
  have q2 : w4.cell? ⟨w2.heap.size, 2, none⟩ = some (.int .i64 (b - 10)) := (cell_of_block hf4 2).trans rfl
  have f3 : w4.frozen? ⟨w2.heap.size, 3, none⟩ = false := unfrozen_of_block hf4 3
  have hbb : -10 ≤ b - 10 ∧ b - 10 ≤ 20 := by omega
  have ew : IntKind.i64.wrap (b - 10 + 1) = b - 10 + 1 := IntWalk.i64_in _ (by omega)
  go_region_held3 (fun wz => wz.cell? ⟨w2.heap.size, 2, none⟩ = some (.int .i64 (b - 10))) (first | assumption | exact (cell_of_block (block_setCell (i := 3) hf5 _) 2).trans rfl | go_keep)
    (first | (go_at_call 45; (with_reducible refine (pick_any 20 w0 _ g A n c xs _ (hs4.after (by with_reducible (repeat (first | exact Ext.refl _ | apply Ext.drewN | apply Ext.drew | apply Ext.alloc | (refine Ext.set ?_ (by first | (simp; done) | (simp; omega) | omega) _) | (refine Ext.trans ?_ (by assumption)))))) (by omega)).mono ?_); rintro e w5 ⟨f, rfl, hf, hs5, hg5⟩; have hz5 := hg5.size; have hf5 := block_far hg5 (block_ext hf4 (by with_reducible (repeat (first | exact Ext.refl _ | apply Ext.drewN | apply Ext.drew | apply Ext.alloc | (refine Ext.set ?_ (by first | (simp; done) | (simp; omega) | omega) _) | (refine Ext.trans ?_ (by assumption)))))) (by omega); have hr5 := block_far hg5 (block_ext hr4 (by with_reducible (repeat (first | exact Ext.refl _ | apply Ext.drewN | apply Ext.drew | apply Ext.alloc | (refine Ext.set ?_ (by first | (simp; done) | (simp; omega) | omega) _) | (refine Ext.trans ?_ (by assumption)))))) (by omega); have hG5 := grown_trans (grown_drewN hG4 1) hg5; have q5 : w5.cell? ⟨w2.heap.size, 2, none⟩ = some (.int .i64 (b - 10)) := (cell_of_block hf5 2).trans rfl; have q6 : w5.cell? ⟨w2.heap.size, 3, none⟩ = some (.int .i64 0) := (cell_of_block hf5 3).trans rfl; have f6 : w5.frozen? ⟨w2.heap.size, 3, none⟩ = false := unfrozen_of_block hf5 3; have ew2 : IntKind.i64.wrap (b - 10 + 1 + f) = b - 10 + 1 + f := IntWalk.i64_in _ (by omega)))
  clear ew ew2
  have hff : 0 ≤ f ∧ f ≤ 19 := by omega
  have hf6 := block_setCell (i := 3) hf5 (.int .i64 (b - 10 + 1 + f))
  have e6 : (#[Value.int .i64 (a - 20), .int .i64 (d - 20), .int .i64 (b - 10), .int .i64 0].setIfInBounds 3 (.int .i64 (b - 10 + 1 + f))) = #[.int .i64 (a - 20), .int .i64 (d - 20), .int .i64 (b - 10), .int .i64 (b - 10 + 1 + f)] := by simp [Array.setIfInBounds]
  rw [e6] at hf6
  have hr6 := block_other hr5 (p := ⟨w2.heap.size, 3, none⟩) (by show w2.heap.size ≠ w.heap.size; omega) (.int .i64 (b - 10 + 1 + f))
  have hG6 := grown_set hG5 (p := ⟨w2.heap.size, 3, none⟩) (by show w.heap.size ≤ w2.heap.size; omega) (.int .i64 (b - 10 + 1 + f))
  have hs6 := hs5.set (p := ⟨w2.heap.size, 3, none⟩) (by show w0.heap.size ≤ w2.heap.size; omega) (by show w2.heap.size ≠ g; omega) (.int .i64 (b - 10 + 1 + f))
  have hz6 : w2.heap.size + 1 ≤ (w5.setCell ⟨w2.heap.size, 3, none⟩ (.int .i64 (b - 10 + 1 + f))).heap.size := by have e : (w4.drew).heap.size = w4.heap.size := rfl; simp [World.setCell]; omega
  clear e6 q5 q6 f6 hf5 hr5 hG5 q2 f3
  obtain ⟨t2, ht2⟩ : ∃ t2, b - 10 + 1 + f = t2 := ⟨_, rfl⟩
  obtain ⟨t1, ht1⟩ : ∃ t1, b - 10 = t1 := ⟨_, rfl⟩
  have hb1 : t1 + 1 ≤ t2 ∧ t2 ≤ t1 + 40 := by omega
  have hb2 : -10 ≤ t1 ∧ t1 ≤ 20 := by omega
  rw [ht2] at hf6 hr6 hG6 hs6 hz6 ⊢
  rw [ht1] at hf6 hbb ⊢
  generalize w5.setCell ⟨w2.heap.size, 3, none⟩ (.int .i64 t2) = w6 at *
  have hx1 : -50 ≤ a - 20 ∧ a - 20 ≤ 50 := by omega
  have hx2 : -50 ≤ d - 20 ∧ d - 20 ≤ 50 := by omega
  generalize a - 20 = x1 at *
  generalize d - 20 = x2 at *
  go_wp2_with fail
  (with_reducible refine (one_any 8 w0 _ g A n c xs _ hs6 (by omega)).mono ?_)
  rintro e w7 ⟨u, rfl, hs7, hg7⟩
  have hz7 := hg7.size
  have hf7 := block_far hg7 hf6 (by omega)
  have hr7 := block_far hg7 hr6 (by omega)
  have hG7 := grown_trans hG6 hg7
  cases u
  · have p0 : w7.cell? ⟨w2.heap.size, 0, none⟩ = some (.int .i64 x1) := (cell_of_block hf7 0).trans rfl
    have p1 : w7.cell? ⟨w2.heap.size, 1, none⟩ = some (.int .i64 x2) := (cell_of_block hf7 1).trans rfl
    have p2 : w7.cell? ⟨w2.heap.size, 2, none⟩ = some (.int .i64 t1) := (cell_of_block hf7 2).trans rfl
    have p3 : w7.cell? ⟨w2.heap.size, 3, none⟩ = some (.int .i64 t2) := (cell_of_block hf7 3).trans rfl
    have r0 : w7.cell? ⟨w.heap.size, 0, none⟩ = some (.int .i64 0) := (cell_of_block hr7 0).trans rfl
    have r1 : w7.cell? ⟨w.heap.size, 1, none⟩ = some (.int .i64 0) := (cell_of_block hr7 1).trans rfl
    have r2 : w7.cell? ⟨w.heap.size, 2, none⟩ = some (.int .i64 0) := (cell_of_block hr7 2).trans rfl
    have r3 : w7.cell? ⟨w.heap.size, 3, none⟩ = some (.int .i64 0) := (cell_of_block hr7 3).trans rfl
    have rf := unfrozen_of_block hr7
    have rf0 := rf 0
    have rf1 := rf 1
    have rf2 := rf 2
    have rf3 := rf 3
    go_wp2
    refine bodyPost_ret (v := .agg #[.int .i64 x1, .int .i64 x2, .int .i64 t1, .int .i64 t2]) (by simp [results, Try.results37, go_sem, *]) rfl ⟨x1, x2, t1, t2, rfl, by omega, ?_, ?_⟩
    · (repeat (refine Srd.set ?_ (by show w0.heap.size ≤ w.heap.size; omega) (by show w.heap.size ≠ g; omega) _))
      exact hs7.more (by omega)
    · (repeat (refine grown_set ?_ (by show w.heap.size ≤ w.heap.size; omega) _))
      exact hG7
  · have p0 : w7.cell? ⟨w2.heap.size, 0, none⟩ = some (.int .i64 x1) := (cell_of_block hf7 0).trans rfl
    have hI : Ints (w7.alloc (.cells #[.int .i64 (-50), .int .i64 50] 2)) (some ⟨w7.heap.size, 0, none⟩) 2 [-50, 50] := ⟨rfl, by omega, by simp, fun _ => ⟨w7.heap.size, 0, rfl, by simp, fun i hi => by
      obtain rfl | rfl : i = 0 ∨ i = 1 := by omega
      · exact (cell_of_block (heap_alloc_new w7 _) 0).trans rfl
      · exact (cell_of_block (heap_alloc_new w7 _) 1).trans rfl⟩⟩
    have hlt7 := hs7.lt
    go_wp2_with fail
    (with_reducible refine (among_any _ 2 _ [-50, 50] w0 _ g A n c xs _ (hs7.after (by with_reducible (repeat (first | exact Ext.refl _ | apply Ext.drewN | apply Ext.drew | apply Ext.alloc | (refine Ext.set ?_ (by first | (simp; done) | (simp; omega) | omega) _) | (refine Ext.trans ?_ (by assumption)))))) (by omega) hI (by omega) (by rintro a e; cases e; show w7.heap.size ≠ g; omega)).mono ?_)
    rintro e w8 ⟨y, rfl, hy, hs8, hg8⟩
    have hyb : -50 ≤ y ∧ y ≤ 50 := by simp at hy; omega
    have hz8 := hg8.size
    simp at hz8
    have hf8 := block_far hg8 (block_ext hf7 (by with_reducible (repeat (first | exact Ext.refl _ | apply Ext.drewN | apply Ext.drew | apply Ext.alloc | (refine Ext.set ?_ (by first | (simp; done) | (simp; omega) | omega) _) | (refine Ext.trans ?_ (by assumption)))))) (by omega)
    have hr8 := block_far hg8 (block_ext hr7 (by with_reducible (repeat (first | exact Ext.refl _ | apply Ext.drewN | apply Ext.drew | apply Ext.alloc | (refine Ext.set ?_ (by first | (simp; done) | (simp; omega) | omega) _) | (refine Ext.trans ?_ (by assumption)))))) (by omega)
    have hG8 := grown_trans (grown_alloc hG7 _) hg8
    have p1 : w8.cell? ⟨w2.heap.size, 1, none⟩ = some (.int .i64 x2) := (cell_of_block hf8 1).trans rfl
    have p2 : w8.cell? ⟨w2.heap.size, 2, none⟩ = some (.int .i64 t1) := (cell_of_block hf8 2).trans rfl
    have p3 : w8.cell? ⟨w2.heap.size, 3, none⟩ = some (.int .i64 t2) := (cell_of_block hf8 3).trans rfl
    have p4 : w8.cell? ⟨w2.heap.size, 0, none⟩ = some (.int .i64 x1) := (cell_of_block hf8 0).trans rfl
    have pf := unfrozen_of_block hf8
    have pf0 := pf 0
    have pf3 := pf 3
    have r0 : w8.cell? ⟨w.heap.size, 0, none⟩ = some (.int .i64 0) := (cell_of_block hr8 0).trans rfl
    have r1 : w8.cell? ⟨w.heap.size, 1, none⟩ = some (.int .i64 0) := (cell_of_block hr8 1).trans rfl
    have r2 : w8.cell? ⟨w.heap.size, 2, none⟩ = some (.int .i64 0) := (cell_of_block hr8 2).trans rfl
    have r3 : w8.cell? ⟨w.heap.size, 3, none⟩ = some (.int .i64 0) := (cell_of_block hr8 3).trans rfl
    have rf := unfrozen_of_block hr8
    have rf0 := rf 0
    have rf1 := rf 1
    have rf2 := rf 2
    have rf3 := rf 3
    have hrn : w.heap.size < w2.heap.size := by omega
    clear hf7 hr7 hG7 hf8 hr8 pf rf
    go_wp2
    refine bodyPost_ret (v := .agg #[.int .i64 y, .int .i64 x2, .int .i64 t1, .int .i64 (t1 + 40)]) (by simp [results, Try.results37, go_sem, *]) rfl ⟨y, x2, t1, t1 + 40, rfl, by omega, ?_, ?_⟩
    · (repeat (first | refine Srd.set ?_ (by show w0.heap.size ≤ w.heap.size; omega) (by show w.heap.size ≠ g; omega) _ | refine Srd.set ?_ (by show w0.heap.size ≤ w2.heap.size; omega) (by show w2.heap.size ≠ g; omega) _))
      exact hs8.more (by omega)
    · (repeat (first | refine grown_set ?_ (by show w.heap.size ≤ w.heap.size; omega) _ | refine grown_set ?_ (by show w.heap.size ≤ w2.heap.size; omega) _))
      exact hG8
set_option maxHeartbeats 1000000 in
theorem A2Flight_any (A : Option Addr) (n c : Nat) (xs : List Int) (w : World) (hB : Byts w A n xs) :
    Calls Try.prog 17 #[.slice A n c] w fun e w' => ∃ x1 x2 t1 t2 : Int, e = .returned (.agg #[.int .i64 x1, .int .i64 x2, .int .i64 t1, .int .i64 t2]) ∧ ((-50 ≤ x1 ∧ x1 ≤ 50) ∧ (-50 ≤ x2 ∧ x2 ≤ 50) ∧ (-10 ≤ t1 ∧ t1 ≤ 20) ∧ (t1 + 1 ≤ t2 ∧ t2 ≤ t1 + 40)) ∧ Ext w w' := by
  go_enter Try.func17, Try.ntmps17
  go_wp2_with fail
  (with_reducible refine (l00From_any A n c xs _ (hB.ext (by with_reducible (repeat (first | exact Ext.refl _ | apply Ext.drewN | apply Ext.drew | apply Ext.alloc | (refine Ext.set ?_ (by first | (simp; done) | (simp; omega) | omega) _) | (refine Ext.trans ?_ (by assumption))))))).mono ?_)
  rintro e w1 ⟨g, rfl, hs1, hg⟩
  have hz1 := hs1.ext.size
  simp at hz1 hg
  subst hg
  go_wp2_with fail
  (with_reducible refine (l16Draw_any _ w1 _ A n c xs 0 hs1 (by omega)).mono ?_)
  rintro e w2 ⟨x1, x2, t1, t2, rfl, hb, hs2, hg2⟩
  have hz2 := hg2.size
  have hx2 := hs2.ext
  have hr2 := block_ext (heap_alloc_new w _) hx2
  have r0 : w2.cell? ⟨w.heap.size, 0, none⟩ = some (.int .i64 0) := (cell_of_block hr2 0).trans rfl
  have r1 : w2.cell? ⟨w.heap.size, 1, none⟩ = some (.int .i64 0) := (cell_of_block hr2 1).trans rfl
  have r2 : w2.cell? ⟨w.heap.size, 2, none⟩ = some (.int .i64 0) := (cell_of_block hr2 2).trans rfl
  have r3 : w2.cell? ⟨w.heap.size, 3, none⟩ = some (.int .i64 0) := (cell_of_block hr2 3).trans rfl
  have rf := unfrozen_of_block hr2
  have rf0 := rf 0
  have rf1 := rf 1
  have rf2 := rf 2
  have rf3 := rf 3
  go_wp2
  refine bodyPost_ret (v := .agg #[.int .i64 x1, .int .i64 x2, .int .i64 t1, .int .i64 t2]) (by simp [results, Try.results17, go_sem, *]) rfl ⟨x1, x2, t1, t2, rfl, hb, ?_⟩
  have hE : Ext w w2 := Ext.trans (by with_reducible (repeat (first | exact Ext.refl _ | apply Ext.drewN | apply Ext.drew | apply Ext.alloc | (refine Ext.set ?_ (by first | (simp; done) | (simp; omega) | omega) _) | (refine Ext.trans ?_ (by assumption))))) hx2
  (repeat (refine Ext.set ?_ (by show w.heap.size ≤ w.heap.size; omega) _))
  exact hE
end Go.Proofs.Ytbaabghehpcjnaa
