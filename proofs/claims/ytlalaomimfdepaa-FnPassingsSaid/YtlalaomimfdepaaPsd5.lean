/- Drawn passing patterns: DrawSwapJugglers, DrawExchangePasses, DrawRotatePassing. No condition but the stated bounds. -/
import Derived.Test.YtlalaomimfdepaaPsd4
namespace Go.Proofs.Ytlalaomimfdepaa
set_option linter.unusedVariables false
set_option linter.unusedSimpArgs false
open Go.ChangeShapes Go.WideShapes Go.ChangeAt Go.RowKit Go.Joins Go.Deep

theorem blk_far {w w' : World} {g b : Nat} {o : Obj} (k : w.grownBy w' (some g)) (hb : w.heap[b]? = some o) (hne : b ≠ g) : w'.heap[b]? = some o :=
  (k.block b (Array.getElem?_eq_some_iff.1 hb).1 (by rintro e; cases e; exact hne rfl)).trans hb
theorem blk_ext {w w' : World} {b : Nat} {o : Obj} (hb : w.heap[b]? = some o) (k : Ext w w') : w'.heap[b]? = some o :=
  (Below.block k b (Array.getElem?_eq_some_iff.1 hb).1).trans hb
theorem blk2 {w : World} {b : Nat} {x y : Value} {t : TypeId} (h : w.heap[b]? = some (.cells #[x, y] t)) : (w.cell? ⟨b, 0, none⟩ = some x ∧ w.cell? ⟨b, 1, none⟩ = some y) ∧ (w.frozen? ⟨b, 0, none⟩ = false ∧ w.frozen? ⟨b, 1, none⟩ = false) :=
  ⟨⟨(cell_of_block h 0).trans rfl, (cell_of_block h 1).trans rfl⟩, unfrozen_of_block h 0, unfrozen_of_block h 1⟩
/-- What is known of a drawn passing pattern. -/
structure PasI (w w' : World) (A1 : Option Addr) (n1 : Nat) (B1 : Option Addr) (m1 : Nat) (ts us : List (Int × Bool)) : Prop where
  a : Thr w' A1 n1 ts
  b : Thr w' B1 m1 us
  n : n1 ≤ 10 ∧ m1 ≤ 10
  x : Ext w w'
theorem pasI_fin {w w' : World} {A1 B1 : Option Addr} {n1 m1 lo : Nat} {ts us : List (Int × Bool)} (ha : ThO w' lo A1 n1 ts) (hb : ThO w' lo B1 m1 us) (hn : n1 ≤ 10 ∧ m1 ≤ 10) (hx : Ext w w') (hlo : w.heap.size < lo) (u v : Value) :
    PasI w ((w'.setCell ⟨w.heap.size, 0, none⟩ u).setCell ⟨w.heap.size, 1, none⟩ v) A1 n1 B1 m1 ts us :=
  ⟨((ha.far (p := ⟨w.heap.size, 0, none⟩) hlo u).far (p := ⟨w.heap.size, 1, none⟩) hlo v).t, ((hb.far (p := ⟨w.heap.size, 0, none⟩) hlo u).far (p := ⟨w.heap.size, 1, none⟩) hlo v).t, hn, (hx.set (Nat.le_refl _) _).set (Nat.le_refl _) _⟩
set_option maxHeartbeats 2000000 in
theorem DrawSwapJugglers_any (A : Option Addr) (n c : Nat) (xs : List Int) (w : World) (hB : Byts w A n xs) :
    Calls Try.prog 17 #[.slice A n c] w fun e w' => ∃ (A1 : Option Addr) (n1 c1 : Nat) (B1 : Option Addr) (m1 d1 : Nat) (ts us : List (Int × Bool)), e = .returned (.agg #[.slice A1 n1 c1, .slice B1 m1 d1]) ∧ PasI w w' A1 n1 B1 m1 ts us := by
  go_enter Try.func17, Try.ntmps17
  go_wp2_with fail
  (with_reducible refine (l00From_any A n c xs _ (hB.ext (by with_reducible (repeat (first | exact Ext.refl _ | apply Ext.drewN | apply Ext.drew | apply Ext.alloc | (refine Ext.set ?_ (by first | (simp; done) | (simp; omega) | omega) _) | (refine Ext.trans ?_ (by assumption))))))).mono ?_)
  rintro e w1 ⟨g, rfl, hs1, -⟩
  have hz1 : w.heap.size < w1.heap.size := by have := hs1.ext.size; simp at this; omega
  go_wp2_with fail
  (with_reducible refine (l06Bent_any _ w1 g A n c xs 0 hs1 (by omega)).mono ?_)
  rintro e w2 ⟨A1, n1, c1, B1, m1, d1, ts, us, rfl, hn, ha, hb, hs2, hg2⟩
  have hR := blk_ext (heap_alloc_new w (.cells #[.slice none 0 0, .slice none 0 0] 28)) hs2.ext
  obtain ⟨⟨r0, r1⟩, s0, s1⟩ := blk2 hR
  have HT := Lib.hid (fun u v : Value => pasI_fin ha hb hn (Ext.trans (show Ext w (w.alloc _) from (Ext.refl _).alloc _) hs2.ext) hz1 u v)
  clear ha hb hs1 hs2 hg2 hR
  go_wp2
  exact bodyPost_ret (v := .agg #[.slice A1 n1 c1, .slice B1 m1 d1]) (by simp [results, Try.results17, go_sem, *]) rfl ⟨A1, n1, c1, B1, m1, d1, ts, us, rfl, HT.out _ _⟩
theorem hg6d {w w' : World} {g : Nat} (h : w.drew.grownBy w' (some g)) : w.grownBy w' (some g) := ⟨h.os, h.tape, h.output, h.size, h.block⟩
set_option maxHeartbeats 4000000 in
theorem DrawExchangePasses_any (A : Option Addr) (n c : Nat) (xs : List Int) (w : World) (hB : Byts w A n xs) :
    Calls Try.prog 16 #[.slice A n c] w fun e w' => ∃ (A1 : Option Addr) (n1 c1 : Nat) (B1 : Option Addr) (m1 d1 : Nat) (ts us : List (Int × Bool)) (k : Int), e = .returned (.tuple #[.agg #[.slice A1 n1 c1, .slice B1 m1 d1], .int .i64 k]) ∧ PasI w w' A1 n1 B1 m1 ts us ∧ (-10 ≤ k ∧ k ≤ 20) := by
  go_enter Try.func16, Try.ntmps16
  go_wp2_with fail
  (with_reducible refine (l00From_any A n c xs _ (hB.ext (by with_reducible (repeat (first | exact Ext.refl _ | apply Ext.drewN | apply Ext.drew | apply Ext.alloc | (refine Ext.set ?_ (by first | (simp; done) | (simp; omega) | omega) _) | (refine Ext.trans ?_ (by assumption))))))).mono ?_)
  rintro e w1 ⟨g, rfl, hs1, -⟩
  have hz1 : w.heap.size < w1.heap.size := by have := hs1.ext.size; simp at this; omega
  have hlt1 := hs1.lt
  go_wp2_with fail
  (with_reducible refine (l06Bent_any _ w1 g A n c xs 0 hs1 (by omega)).mono ?_)
  rintro e w2 ⟨A1, n1, c1, B1, m1, d1, ts, us, rfl, hn, ha, hb, hs2, hg2⟩
  have hz2 := hg2.size
  have hlt2 := hs2.lt
  have hgne : w.heap.size ≠ g := by have := hs1.born; simp at this; omega
  have hT2 := heap_alloc_new w2 (.cells #[.slice A1 n1 c1, .slice B1 m1 d1] 28)
  have hwt : w.heap.size < w2.heap.size := by omega
  have hwt2 : ¬ w.heap.size = w2.heap.size := by omega
  have hnw : IntKind.i64.wrap ((n1 : Int) + 1) = (n1 : Int) + 1 := IntWalk.i64_in _ (by omega)
  go_wp2_with fail
  go_region_held3 (fun wz => wz.cell? ⟨w2.heap.size, 0, none⟩ = some (.slice A1 n1 c1) ∧ wz.cell? ⟨w2.heap.size, 1, none⟩ = some (.slice B1 m1 d1)) (go_keep)
    (first | (go_at_call 37; (with_reducible refine (pick_any ((n1 : Int) + 1) _ _ g A n c xs _ (hs2.after (by with_reducible (repeat (first | exact Ext.refl _ | apply Ext.drewN | apply Ext.drew | apply Ext.alloc | (refine Ext.set ?_ (by first | (simp; done) | (simp; omega) | omega) _) | (refine Ext.trans ?_ (by assumption)))))) (by omega)).mono ?_); rintro e w6 ⟨y, rfl, hy, hs6, hg6⟩; have hT6 := blk_far hg6 (blk_ext hT2 (by with_reducible (repeat (first | exact Ext.refl _ | apply Ext.drewN | apply Ext.drew | apply Ext.alloc | (refine Ext.set ?_ (by first | (simp; done) | (simp; omega) | omega) _) | (refine Ext.trans ?_ (by assumption)))))) (by omega); obtain ⟨⟨q0, q1⟩, f0, f1⟩ := blk2 hT6; have ha6 := (ha.ext (show Ext w2 (w2.alloc (.cells #[.slice A1 n1 c1, .slice B1 m1 d1] 28)) from (Ext.refl _).alloc _)); have hb6 := (hb.ext (show Ext w2 (w2.alloc (.cells #[.slice A1 n1 c1, .slice B1 m1 d1] 28)) from (Ext.refl _).alloc _))) | (go_at_call 37; (with_reducible refine (pick_any 16 _ _ g A n c xs _ (hs6.after (by with_reducible (repeat (first | exact Ext.refl _ | apply Ext.drewN | apply Ext.drew | apply Ext.alloc | (refine Ext.set ?_ (by first | (simp; done) | (simp; omega) | omega) _) | (refine Ext.trans ?_ (by assumption)))))) (by omega)).mono ?_); rintro e w7 ⟨z, rfl, hz, hs7, hg7⟩; have hT7 := blk_far hg7 (blk_ext hT6 (by with_reducible (repeat (first | exact Ext.refl _ | apply Ext.drewN | apply Ext.drew | apply Ext.alloc | (refine Ext.set ?_ (by first | (simp; done) | (simp; omega) | omega) _) | (refine Ext.trans ?_ (by assumption)))))) (by omega); clear q0 q1 f0 f1; obtain ⟨⟨q0, q1⟩, f0, f1⟩ := blk2 hT7; have hR7 := blk_ext (heap_alloc_new w (.cells #[.slice none 0 0, .slice none 0 0] 28)) hs7.ext; obtain ⟨⟨r0, r1⟩, s0, s1⟩ := blk2 hR7))
  (try (rename_i hHeld; clear hHeld))
  have hz15 : 0 ≤ z ∧ z ≤ 15 := by omega
  have hy15 : 0 ≤ y ∧ y ≤ 10 := by omega
  have hkb : -10 ≤ IntKind.i64.wrap (y - IntKind.i64.wrap (z.tdiv 15)) ∧ IntKind.i64.wrap (y - IntKind.i64.wrap (z.tdiv 15)) ≤ 20 := by
    rw [Int.tdiv_eq_ediv_of_nonneg hz15.1, IntWalk.i64_in (z / 15) (by omega), IntWalk.i64_in _ (by omega)]
    omega
  generalize IntKind.i64.wrap (y - IntKind.i64.wrap (z.tdiv 15)) = kk at *
  have HT := Lib.hid (fun u v : Value => pasI_fin ((ha6.drawn (hg6d hg6) (by omega)).drawn hg7 (by omega)) ((hb6.drawn (hg6d hg6) (by omega)).drawn hg7 (by omega)) hn (Ext.trans (show Ext w (w.alloc _) from (Ext.refl _).alloc _) hs7.ext) hz1 u v)
  clear ha hb ha6 hb6 hs1 hs2 hs6 hs7 hg2 hg6 hg7 hR7 hT7 hT6 hT2
  go_wp2
  exact bodyPost_ret (v := .tuple #[.agg #[.slice A1 n1 c1, .slice B1 m1 d1], .int .i64 kk]) (by simp [results, Try.results16, go_sem, *]) rfl ⟨A1, n1, c1, B1, m1, d1, ts, us, kk, rfl, HT.out _ _, hkb⟩
set_option maxHeartbeats 4000000 in
theorem DrawRotatePassing_any (A : Option Addr) (n c : Nat) (xs : List Int) (w : World) (hB : Byts w A n xs) :
    Calls Try.prog 18 #[.slice A n c] w fun e w' => ∃ (A1 : Option Addr) (n1 c1 : Nat) (B1 : Option Addr) (m1 d1 : Nat) (ts us : List (Int × Bool)) (k : Int), e = .returned (.tuple #[.agg #[.slice A1 n1 c1, .slice B1 m1 d1], .int .i64 k]) ∧ PasI w w' A1 n1 B1 m1 ts us ∧ (-2000000 ≤ k ∧ k ≤ 2000000) := by
  go_enter Try.func18, Try.ntmps18
  go_wp2_with fail
  (with_reducible refine (l00From_any A n c xs _ (hB.ext (by with_reducible (repeat (first | exact Ext.refl _ | apply Ext.drewN | apply Ext.drew | apply Ext.alloc | (refine Ext.set ?_ (by first | (simp; done) | (simp; omega) | omega) _) | (refine Ext.trans ?_ (by assumption))))))).mono ?_)
  rintro e w1 ⟨g, rfl, hs1, -⟩
  have hz1 : w.heap.size < w1.heap.size := by have := hs1.ext.size; simp at this; omega
  have hlt1 := hs1.lt
  go_wp2_with fail
  (with_reducible refine (l06Bent_any _ w1 g A n c xs 0 hs1 (by omega)).mono ?_)
  rintro e w2 ⟨A1, n1, c1, B1, m1, d1, ts, us, rfl, hn, ha, hb, hs2, hg2⟩
  have hz2 := hg2.size
  have hlt2 := hs2.lt
  have hT2 := heap_alloc_new w2 (.cells #[.slice A1 n1 c1, .slice B1 m1 d1] 28)
  have hwt : w.heap.size < w2.heap.size := by omega
  have hwt2 : ¬ w.heap.size = w2.heap.size := by omega
  have ha2 := ha.ext (show Ext w2 (w2.alloc (.cells #[.slice A1 n1 c1, .slice B1 m1 d1] 28)) from (Ext.refl _).alloc _)
  have hb2 := hb.ext (show Ext w2 (w2.alloc (.cells #[.slice A1 n1 c1, .slice B1 m1 d1] 28)) from (Ext.refl _).alloc _)
  go_wp2_with fail
  (with_reducible refine (pick_any 20 _ _ g A n c xs _ (hs2.after (by with_reducible (repeat (first | exact Ext.refl _ | apply Ext.drewN | apply Ext.drew | apply Ext.alloc | (refine Ext.set ?_ (by first | (simp; done) | (simp; omega) | omega) _) | (refine Ext.trans ?_ (by assumption)))))) (by omega)).mono ?_)
  rintro e w3 ⟨y, rfl, hy, hs3, hg3⟩
  have hT3 := blk_far hg3 hT2 (by omega)
  have ha3 := ha2.drawn hg3 (by omega)
  have hb3 := hb2.drawn hg3 (by omega)
  clear ha hb ha2 hb2 hT2
  obtain ⟨b1, hb1⟩ : ∃ b1, y - 8 = b1 := ⟨_, rfl⟩
  have hb1b : -8 ≤ b1 ∧ b1 ≤ 11 := by omega
  have hb1w : IntKind.i64.wrap (y - 8) = b1 := by rw [hb1]; exact IntWalk.i64_in _ (by omega)
  go_wp2_with fail
  (with_reducible refine (one_any 12 _ _ g A n c xs _ hs3 (by omega)).mono ?_)
  rintro e w4 ⟨bo, rfl, hs4, hg4⟩
  have hT4 := blk_far hg4 hT3 (by omega)
  have ha4 := ha3.drawn hg4 (by omega)
  have hb4 := hb3.drawn hg4 (by omega)
  clear ha3 hb3 hT3 hs1 hs2 hs3 hg2 hg3 hg4
  cases bo
  · obtain ⟨⟨q0, q1⟩, f0, f1⟩ := blk2 hT4
    have hR := blk_ext (heap_alloc_new w (.cells #[.slice none 0 0, .slice none 0 0] 28)) hs4.ext
    obtain ⟨⟨r0, r1⟩, s0, s1⟩ := blk2 hR
    have HT := Lib.hid (fun u v : Value => pasI_fin ha4 hb4 hn (Ext.trans (show Ext w (w.alloc _) from (Ext.refl _).alloc _) hs4.ext) hz1 u v)
    clear ha4 hb4 hs4 hR hT4
    go_wp2
    exact bodyPost_ret (v := .tuple #[.agg #[.slice A1 n1 c1, .slice B1 m1 d1], .int .i64 b1]) (by simp [results, Try.results18, go_sem, *]) rfl ⟨A1, n1, c1, B1, m1, d1, ts, us, b1, rfl, HT.out _ _, by omega⟩
  · have hlt4 := hs4.lt
    have hI4 : Ints (w4.alloc (.cells #[.int .i64 (-1000001), .int .i64 (-1000000), .int .i64 1000000, .int .i64 1000001] 2)) (some ⟨w4.heap.size, 0, none⟩) 4 [-1000001, -1000000, 1000000, 1000001] := ⟨rfl, by omega, by intro x hx; simp at hx; omega, fun _ => ⟨w4.heap.size, 0, rfl, by simp, fun i hi => by
      obtain rfl | rfl | rfl | rfl : i = 0 ∨ i = 1 ∨ i = 2 ∨ i = 3 := by omega
      · exact (cell_of_block (heap_alloc_new w4 _) 0).trans rfl
      · exact (cell_of_block (heap_alloc_new w4 _) 1).trans rfl
      · exact (cell_of_block (heap_alloc_new w4 _) 2).trans rfl
      · exact (cell_of_block (heap_alloc_new w4 _) 3).trans rfl⟩⟩
    go_wp2_with fail
    (with_reducible refine (among_any _ 4 _ [-1000001, -1000000, 1000000, 1000001] _ _ g A n c xs _ (hs4.after (by with_reducible (repeat (first | exact Ext.refl _ | apply Ext.drewN | apply Ext.drew | apply Ext.alloc | (refine Ext.set ?_ (by first | (simp; done) | (simp; omega) | omega) _) | (refine Ext.trans ?_ (by assumption)))))) (by omega) hI4 (by omega) (by rintro a e; cases e; show w4.heap.size ≠ g; omega)).mono ?_)
    rintro e w5 ⟨k, rfl, hk, hs5, hg5⟩
    have hkb : -2000000 ≤ k ∧ k ≤ 2000000 := by simp at hk; omega
    have hT5 := blk_far hg5 (blk_ext hT4 ((Ext.refl _).alloc _)) (by omega)
    have ha5 := (ha4.ext ((Ext.refl _).alloc _)).drawn hg5 (by omega)
    have hb5 := (hb4.ext ((Ext.refl _).alloc _)).drawn hg5 (by omega)
    obtain ⟨⟨q0, q1⟩, f0, f1⟩ := blk2 hT5
    have hR := blk_ext (heap_alloc_new w (.cells #[.slice none 0 0, .slice none 0 0] 28)) hs5.ext
    obtain ⟨⟨r0, r1⟩, s0, s1⟩ := blk2 hR
    have HT := Lib.hid (fun u v : Value => pasI_fin ha5 hb5 hn (Ext.trans (show Ext w (w.alloc _) from (Ext.refl _).alloc _) hs5.ext) hz1 u v)
    clear ha4 hb4 ha5 hb5 hs4 hs5 hR hT4 hT5 hg5 hk
    go_wp2
    exact bodyPost_ret (v := .tuple #[.agg #[.slice A1 n1 c1, .slice B1 m1 d1], .int .i64 k]) (by simp [results, Try.results18, go_sem, *]) rfl ⟨A1, n1, c1, B1, m1, d1, ts, us, k, rfl, HT.out _ _, hkb⟩
end Go.Proofs.Ytlalaomimfdepaa
