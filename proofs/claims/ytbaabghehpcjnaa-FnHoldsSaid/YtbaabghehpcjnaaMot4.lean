/- Drawn patterns with a timing and a width: contract of l16Three. No condition but the stated bounds. -/
import Derived.Test.YtbaabghehpcjnaaMot3
import Derived.Deep.RegionHeld3
namespace Go.Proofs.Ytbaabghehpcjnaa
set_option linter.unusedVariables false
set_option linter.unusedSimpArgs false
open Go.RowKit Go.Joins

/-- A drawn pattern, timing and width. -/
def DrawnP (w0 w : World) (g : Nat) (A : Option Addr) (n c : Nat) (xs : List Int) (top : Nat) (e : Ending) (w' : World) : Prop :=
  ∃ (B : Option Addr) (m d : Nat) (ys : List Int) (b dd wd : Int), e = .returned (.tuple #[.slice B m d, .agg #[.int .i64 b, .int .i64 dd], .int .i64 wd]) ∧ w'.ownsRow w.heap.size 2 1 (.slice B m d) m (ys.map (Value.int .i64)) ∧ m ≤ 20 ∧ (∀ y ∈ ys, -20 ≤ y ∧ y ≤ 16) ∧ Srd w0 w' g A n c xs top ∧ w.grownBy w' (some g)
theorem own_intsM {w : World} {lo : Nat} {A : Option Addr} {n c : Nat} {ys : List Int} (h : w.ownsRow lo 2 1 (.slice A n c) n (ys.map (Value.int .i64))) (hn : n ≤ 1000000) (hb : ∀ y ∈ ys, -100 ≤ y ∧ y ≤ 100) : Ints w A n ys := by
  have hl : ys.length = n := by have := h.1; simpa using this
  refine ⟨hl, by omega, fun y hy => by have := hb y hy; omega, fun hn => ?_⟩
  obtain ⟨gl, cl, e, h1, h2⟩ := World.ownsRow.form h hn
  cases e
  exact ⟨gl, 0, rfl, h2, fun i hi => by rw [Nat.zero_add]; exact (own_cell h hi).1⟩
theorem own_other {w : World} {lo : Nat} {e : TypeId} {m n : Nat} {v : Value} {cs : List Value} (h : w.ownsRow lo e m v n cs) {p : Addr} (hp : ∀ b, v.ownBlock = some b → b ≠ p.block) (u : Value) : (w.setCell p u).ownsRow lo e m v n cs :=
  own_far h (only_setCell (World.grownBy.refl w (some p.block)) rfl u) (fun k ek hk => by cases ek; exact hp _ hk rfl)
theorem own_block {w : World} {lo : Nat} {B : Option Addr} {m d : Nat} {ys : List Int} (h : w.ownsRow lo 2 1 (.slice B m d) m (ys.map (Value.int .i64))) : ∀ a, B = some a → lo ≤ a.block ∧ a.block < w.heap.size := fun a e => by
  subst e
  rcases ownsRow_forms h with ⟨hv, h0⟩ | ⟨gg, cap, hv⟩
  · cases hv
  · cases hv
    exact World.ownsRow.lt h gg rfl
set_option maxHeartbeats 8000000 in
set_option maxRecDepth 100000 in
theorem l16Three_any (w0 w : World) (g : Nat) (A : Option Addr) (n c : Nat) (xs : List Int) (top : Nat) (h : Srd w0 w g A n c xs top) (ht : top ≤ 600000000) :
    Calls Try.prog 23 #[.pointer (some ⟨g, 0, none⟩)] w (DrawnP w0 w g A n c xs (top + 600)) := by
  have hlt := h.lt
  have hborn := h.born
  go_enter Try.func23, Try.ntmps23
  go_wp2_with fail
  (with_reducible refine (l10Draw_any w0 _ g A n c xs top (h.after (by with_reducible (repeat (first | exact Ext.refl _ | apply Ext.drewN | apply Ext.drew | apply Ext.alloc | (refine Ext.set ?_ (by first | (simp; done) | (simp; omega) | omega) _) | (refine Ext.trans ?_ (by assumption)))))) (by omega)).mono ?_)
  rintro e w1 ⟨B, m, d, ys, rfl, hown0, hm, hbd, hs1, hg1⟩
  have hown1 : w1.ownsRow (w.heap.size + 1) 2 1 (.slice B m d) m (ys.map (Value.int .i64)) := ownsRow_le hown0 (by simp)
  clear hown0
  have HB : Hid (∀ y ∈ ys, -20 ≤ y ∧ y ≤ 16) := hbd
  clear hbd
  have hyl : ys.length = m := by have := hown1.1; simpa using this
  have HBD : Hid (∀ i, i < m → -20 ≤ ys[i]?.getD 0 ∧ ys[i]?.getD 0 ≤ 16) := fun i hi => getDbd HB.out (by omega)
  have HY := Lib.hid hyl
  clear hyl
  have hr1 := block_far hg1 (heap_alloc_new w _) (by omega)
  have hG1 := grown_trans (grown_alloc (World.grownBy.refl w (some g)) _) hg1
  have hz1 := hg1.size
  simp at hz1
  go_wp2_with fail
  (with_reducible refine (pick_any 7 w0 _ g A n c xs _ hs1 (by omega)).mono ?_)
  rintro e w2 ⟨x, rfl, hx, hs2, hg2⟩
  have hr2 := block_far hg2 hr1 (by omega)
  have hown2 := own_keep hown1 hg2 (by omega)
  have hG2 := grown_trans hG1 hg2
  have hz2 := hg2.size
  clear hown1 hr1 hG1
  obtain ⟨b, hb⟩ : ∃ b, 2 + x = b := ⟨_, rfl⟩
  have hb15 : 2 ≤ b ∧ b ≤ 8 := by omega
  have hbw : IntKind.i64.wrap (2 + x) = b := by rw [hb]; exact IntWalk.i64_in _ (by omega)
  have hBlk := own_block hown2
  have HK := Lib.hid hBlk
  clear hBlk
  have hI2 := own_intsM hown2 (by omega) (fun y hy => by have := HB.out y hy; omega)
  go_wp2_with fail
  (with_reducible refine (l15Most_low B m d ys b _ (hI2.ext (by with_reducible (repeat (first | exact Ext.refl _ | apply Ext.drewN | apply Ext.drew | apply Ext.alloc | (refine Ext.set ?_ (by first | (simp; done) | (simp; omega) | omega) _) | (refine Ext.trans ?_ (by assumption)))))) HBD.out (by omega) (by omega)).mono ?_)
  rintro e w2' ⟨y, rfl, hy, rfl⟩
  have hcm : 1 ≤ cmf 1 y ∧ cmf 1 y ≤ 60 := by unfold cmf; split <;> omega
  go_wp2_with (first | (go_at_call 46; (with_reducible refine (l00Max_any _ _ _).mono ?_); rintro e w' ⟨rfl, rfl⟩))
  generalize cmf 1 y = z at *
  (with_reducible refine (pick_any z w0 _ g A n c xs _ (hs2.after (by with_reducible (repeat (first | exact Ext.refl _ | apply Ext.drewN | apply Ext.drew | apply Ext.alloc | (refine Ext.set ?_ (by first | (simp; done) | (simp; omega) | omega) _) | (refine Ext.trans ?_ (by assumption)))))) (by omega)).mono ?_)
  rintro e w3 ⟨x3, rfl, hx3, hs3, hg3⟩
  have hr3 := block_far hg3 (block_ext hr2 (by with_reducible (repeat (first | exact Ext.refl _ | apply Ext.drewN | apply Ext.drew | apply Ext.alloc | (refine Ext.set ?_ (by first | (simp; done) | (simp; omega) | omega) _) | (refine Ext.trans ?_ (by assumption)))))) (by omega)
  have hf3 := block_far hg3 (heap_alloc_new w2 _) (by have := hs2.lt; omega)
  have hown3 := own_keep (own_ext hown2 (show Ext w2 (w2.alloc _) from (by with_reducible (repeat (first | exact Ext.refl _ | apply Ext.drewN | apply Ext.drew | apply Ext.alloc | (refine Ext.set ?_ (by first | (simp; done) | (simp; omega) | omega) _) | (refine Ext.trans ?_ (by assumption))))))) hg3 (by omega)
  have hG3 := grown_trans (grown_alloc hG2 _) hg3
  have hz3 := hg3.size
  simp at hz3
  have hgl2 := hs2.lt
  obtain ⟨⟨q0, q1⟩, f0, f1⟩ := pair_at hf3
  go_wp2_with fail
  obtain ⟨d1, hd1⟩ : ∃ d1, 1 + x3 = d1 := ⟨_, rfl⟩
  rw [hd1]
  have hvo : Hid (∀ k, (Value.slice B m d).ownBlock = some k → w.heap.size + 1 ≤ k ∧ k < w2.heap.size) := fun k hk => World.ownsRow.lt hown2 k hk
  have hf4 := pair_set1 hf3 (z := .int .i64 d1)
  have hr4 := block_other hr3 (p := ⟨w2.heap.size, 1, none⟩) (by show w2.heap.size ≠ w.heap.size; omega) (.int .i64 d1)
  have hG4 := grown_set hG3 (p := ⟨w2.heap.size, 1, none⟩) (by show w.heap.size ≤ w2.heap.size; omega) (.int .i64 d1)
  have hown4 := own_other hown3 (p := ⟨w2.heap.size, 1, none⟩) (fun k hk => by have := hvo.out k hk; show k ≠ w2.heap.size; omega) (.int .i64 d1)
  have hs4 := hs3.set (p := ⟨w2.heap.size, 1, none⟩) (by show w0.heap.size ≤ w2.heap.size; omega) (by show w2.heap.size ≠ g; omega) (.int .i64 d1)
  have hz4 : w2.heap.size + 1 ≤ (w3.setCell ⟨w2.heap.size, 1, none⟩ (.int .i64 d1)).heap.size := by simpa [World.setCell] using hz3
  clear q0 q1 f0 f1 hf3 hr3 hG3 hown3 hown2 hI2
  generalize w3.setCell ⟨w2.heap.size, 1, none⟩ (.int .i64 d1) = w4 at *
  (with_reducible refine (pick_any 16 w0 _ g A n c xs _ hs4 (by omega)).mono ?_)
  rintro e w5 ⟨x5, rfl, hx5, hs5, hg5⟩
  have hf5 := block_far hg5 hf4 (by omega)
  have hr5 := block_far hg5 hr4 (by omega)
  have hG5 := grown_trans hG4 hg5
  have hown5 := own_keep hown4 hg5 (by omega)
  have hz5 := hg5.size
  clear hf4 hr4 hG4 hown4
  have hwt : w.heap.size < w2.heap.size := by omega
  have hwt2 : ¬ w.heap.size = w2.heap.size := by omega
  have hx5c : x5 = 0 ∨ x5 = 1 ∨ 2 ≤ x5 := by omega
  rcases hx5c with rfl | rfl | hx2
  · have hI5 := own_intsM hown5 (by omega) (fun y hy => by have := HB.out y hy; omega)
    go_wp2_with fail
    (with_reducible refine (l15Draw_any B m d ys w0 _ g A n c xs _ hs5 (by omega) hI5 (by omega) HBD.out (fun a e => by have := HK.out a e; omega)).mono ?_)
    rintro e w6 ⟨b6, d6, rfl, hs6, hg6⟩
    have hf6 := block_far hg6 hf5 (by omega)
    have hr6 := block_far hg6 hr5 (by omega)
    have hG6 := grown_trans hG5 hg6
    have hown6 := own_keep hown5 hg6 (by omega)
    have hz6 := hg6.size
    obtain ⟨⟨q0, q1⟩, f0, f1⟩ := pair_at hf6
    have HO6 := Lib.hid hown6
    clear hown6 hown5 hI5
    go_wp2_with fail
    have hf7 := pair_set1 (pair_set0 hf6 (z := .int .i64 b6)) (z := .int .i64 d6)
    have hr7 := block_other (block_other hr6 (p := ⟨w2.heap.size, 0, none⟩) (by show w2.heap.size ≠ w.heap.size; omega) (.int .i64 b6)) (p := ⟨w2.heap.size, 1, none⟩) (by show w2.heap.size ≠ w.heap.size; omega) (.int .i64 d6)
    have hG7 := grown_set (grown_set hG6 (p := ⟨w2.heap.size, 0, none⟩) (by show w.heap.size ≤ w2.heap.size; omega) (.int .i64 b6)) (p := ⟨w2.heap.size, 1, none⟩) (by show w.heap.size ≤ w2.heap.size; omega) (.int .i64 d6)
    have HO := Lib.hid (own_other (own_other HO6.out (p := ⟨w2.heap.size, 0, none⟩) (fun k hk => by have := hvo.out k hk; show k ≠ w2.heap.size; omega) (.int .i64 b6)) (p := ⟨w2.heap.size, 1, none⟩) (fun k hk => by have := hvo.out k hk; show k ≠ w2.heap.size; omega) (.int .i64 d6))
    have hs7 := (hs6.set (p := ⟨w2.heap.size, 0, none⟩) (by show w0.heap.size ≤ w2.heap.size; omega) (by show w2.heap.size ≠ g; omega) (.int .i64 b6)).set (p := ⟨w2.heap.size, 1, none⟩) (by show w0.heap.size ≤ w2.heap.size; omega) (by show w2.heap.size ≠ g; omega) (.int .i64 d6)
    have hz7 : w2.heap.size + 1 ≤ ((w6.setCell ⟨w2.heap.size, 0, none⟩ (.int .i64 b6)).setCell ⟨w2.heap.size, 1, none⟩ (.int .i64 d6)).heap.size := by simp [World.setCell]; omega
    clear q0 q1 f0 f1 hf6 hr6 hG6 HO6
    generalize (w6.setCell ⟨w2.heap.size, 0, none⟩ (.int .i64 b6)).setCell ⟨w2.heap.size, 1, none⟩ (.int .i64 d6) = w7 at *
    obtain ⟨⟨q0, q1⟩, _⟩ := pair_at hf7
    go_region_held3 (fun wz => wz.cell? ⟨w2.heap.size, 0, none⟩ = some (.int .i64 b6) ∧ wz.cell? ⟨w2.heap.size, 1, none⟩ = some (.int .i64 d6)) (go_keep)
      (first | (go_at_call 45; (with_reducible refine (pick_any 12 w0 _ g A n c xs _ (hs7.after (by with_reducible (repeat (first | exact Ext.refl _ | apply Ext.drewN | apply Ext.drew | apply Ext.alloc | (refine Ext.set ?_ (by first | (simp; done) | (simp; omega) | omega) _) | (refine Ext.trans ?_ (by assumption)))))) (by omega)).mono ?_); rintro e w9 ⟨v, rfl, hv, hs9, hg9⟩; have hz9 := hg9.size; have hf9 := block_far hg9 (block_ext hf7 (by with_reducible (repeat (first | exact Ext.refl _ | apply Ext.drewN | apply Ext.drew | apply Ext.alloc | (refine Ext.set ?_ (by first | (simp; done) | (simp; omega) | omega) _) | (refine Ext.trans ?_ (by assumption)))))) (by omega); have hr9 := block_far hg9 (block_ext hr7 (by with_reducible (repeat (first | exact Ext.refl _ | apply Ext.drewN | apply Ext.drew | apply Ext.alloc | (refine Ext.set ?_ (by first | (simp; done) | (simp; omega) | omega) _) | (refine Ext.trans ?_ (by assumption)))))) (by omega); have hG9 := grown_trans (grown_drewN hG7 1) hg9; have HO9 := Lib.hid (own_keep (own_ext HO.out (by with_reducible (repeat (first | exact Ext.refl _ | apply Ext.drewN | apply Ext.drew | apply Ext.alloc | (refine Ext.set ?_ (by first | (simp; done) | (simp; omega) | omega) _) | (refine Ext.trans ?_ (by assumption)))))) hg9 (by omega)); obtain ⟨⟨q90, q91⟩, f90, f91⟩ := pair_at hf9; obtain ⟨⟨r90, r91⟩, s90, s91⟩ := pair_at hr9))
    (try (rename_i hHeld; clear hHeld))
    have HS : Hid (Srd w0 w9 g A n c xs (top + 600)) := hs9.more (by omega)
    have HG := Lib.hid hG9
    clear hf9 hr9 hG9 hs9 hg9
    go_wp2
    refine bodyPost_ret (v := .tuple #[.slice B m d, .agg #[.int .i64 b6, .int .i64 d6], .int .i64 v]) (by simp [results, Try.results23, go_sem, *]) rfl ⟨B, m, d, ys, b6, d6, v, rfl, ?_, hm.2, HB.out, ?_, ?_⟩
    · (repeat (refine own_other ?_ (fun k hk => by have := hvo.out k hk; show k ≠ w.heap.size; omega) _))
      exact ownsRow_le HO9.out (by omega)
    · (repeat (refine Srd.set ?_ (by show w0.heap.size ≤ w.heap.size; omega) (by show w.heap.size ≠ g; omega) _))
      exact HS.out
    · (repeat (refine grown_set ?_ (by show w.heap.size ≤ w.heap.size; omega) _))
      exact HG.out
  · obtain ⟨⟨q0, q1⟩, f0, f1⟩ := pair_at hf5
    have hlt5 := hs5.lt
    have hIa : Ints (w5.alloc (.cells #[.int .i64 (-1), .int .i64 0, .int .i64 16, .int .i64 17] 2)) (some ⟨w5.heap.size, 0, none⟩) 4 [-1, 0, 16, 17] := ints_new w5 [-1, 0, 16, 17] _ (by simp) (by simp)
    have HO := Lib.hid hown5
    clear hown5
    go_wp2_with fail
    go_region_held3 (fun wz => wz.cell? ⟨w2.heap.size, 0, none⟩ = some (.int .i64 b) ∧ wz.cell? ⟨w2.heap.size, 1, none⟩ = some (.int .i64 d1)) (go_keep)
      (first | (go_at_call 49; (with_reducible refine (among_any _ 4 _ [-1, 0, 16, 17] w0 _ g A n c xs _ (hs5.after (by with_reducible (repeat (first | exact Ext.refl _ | apply Ext.drewN | apply Ext.drew | apply Ext.alloc | (refine Ext.set ?_ (by first | (simp; done) | (simp; omega) | omega) _) | (refine Ext.trans ?_ (by assumption)))))) (by omega) (hIa.ext (by with_reducible (repeat (first | exact Ext.refl _ | apply Ext.drewN | apply Ext.drew | apply Ext.alloc | (refine Ext.set ?_ (by first | (simp; done) | (simp; omega) | omega) _) | (refine Ext.trans ?_ (by assumption)))))) (by omega) (by rintro a e; cases e; show w5.heap.size ≠ g; omega)).mono ?_); rintro e w9 ⟨v, rfl, hv, hs9, hg9⟩; have hz9 : w5.heap.size ≤ w9.heap.size := Nat.le_trans (Nat.le_succ _) (Nat.le_trans (Nat.le_of_eq (World.size_alloc w5 _).symm) hg9.size); have hf9 := block_far hg9 (block_ext hf5 (by with_reducible (repeat (first | exact Ext.refl _ | apply Ext.drewN | apply Ext.drew | apply Ext.alloc | (refine Ext.set ?_ (by first | (simp; done) | (simp; omega) | omega) _) | (refine Ext.trans ?_ (by assumption)))))) (by omega); have hr9 := block_far hg9 (block_ext hr5 (by with_reducible (repeat (first | exact Ext.refl _ | apply Ext.drewN | apply Ext.drew | apply Ext.alloc | (refine Ext.set ?_ (by first | (simp; done) | (simp; omega) | omega) _) | (refine Ext.trans ?_ (by assumption)))))) (by omega); have hG9 := grown_trans (grown_drewN (grown_alloc hG5 _) 1) hg9; have HO9 := Lib.hid (own_keep (own_ext HO.out (by with_reducible (repeat (first | exact Ext.refl _ | apply Ext.drewN | apply Ext.drew | apply Ext.alloc | (refine Ext.set ?_ (by first | (simp; done) | (simp; omega) | omega) _) | (refine Ext.trans ?_ (by assumption)))))) hg9 (by omega)); obtain ⟨⟨q90, q91⟩, f90, f91⟩ := pair_at hf9; obtain ⟨⟨r90, r91⟩, s90, s91⟩ := pair_at hr9))
    (try (rename_i hHeld; clear hHeld))
    have HS : Hid (Srd w0 w9 g A n c xs (top + 600)) := hs9.more (by omega)
    have HG := Lib.hid hG9
    clear hf9 hr9 hG9 hs9 hg9
    go_wp2
    refine bodyPost_ret (v := .tuple #[.slice B m d, .agg #[.int .i64 b, .int .i64 d1], .int .i64 v]) (by simp [results, Try.results23, go_sem, *]) rfl ⟨B, m, d, ys, b, d1, v, rfl, ?_, hm.2, HB.out, ?_, ?_⟩
    · (repeat (refine own_other ?_ (fun k hk => by have := hvo.out k hk; show k ≠ w.heap.size; omega) _))
      exact ownsRow_le HO9.out (by omega)
    · (repeat (refine Srd.set ?_ (by show w0.heap.size ≤ w.heap.size; omega) (by show w.heap.size ≠ g; omega) _))
      exact HS.out
    · (repeat (refine grown_set ?_ (by show w.heap.size ≤ w.heap.size; omega) _))
      exact HG.out
  · have n0 : (x5 == 0) = false := by simp; omega
    have n1 : (x5 == 1) = false := by simp; omega
    obtain ⟨⟨q0, q1⟩, f0, f1⟩ := pair_at hf5
    have HO := Lib.hid hown5
    clear hown5
    go_wp2_with fail
    go_region_held3 (fun wz => wz.cell? ⟨w2.heap.size, 0, none⟩ = some (.int .i64 b) ∧ wz.cell? ⟨w2.heap.size, 1, none⟩ = some (.int .i64 d1)) (go_keep)
      (first | (go_at_call 45; (with_reducible refine (pick_any 12 w0 _ g A n c xs _ (hs5.after (by with_reducible (repeat (first | exact Ext.refl _ | apply Ext.drewN | apply Ext.drew | apply Ext.alloc | (refine Ext.set ?_ (by first | (simp; done) | (simp; omega) | omega) _) | (refine Ext.trans ?_ (by assumption)))))) (by omega)).mono ?_); rintro e w9 ⟨v, rfl, hv, hs9, hg9⟩; have hz9 := hg9.size; have hf9 := block_far hg9 (block_ext hf5 (by with_reducible (repeat (first | exact Ext.refl _ | apply Ext.drewN | apply Ext.drew | apply Ext.alloc | (refine Ext.set ?_ (by first | (simp; done) | (simp; omega) | omega) _) | (refine Ext.trans ?_ (by assumption)))))) (by omega); have hr9 := block_far hg9 (block_ext hr5 (by with_reducible (repeat (first | exact Ext.refl _ | apply Ext.drewN | apply Ext.drew | apply Ext.alloc | (refine Ext.set ?_ (by first | (simp; done) | (simp; omega) | omega) _) | (refine Ext.trans ?_ (by assumption)))))) (by omega); have hG9 := grown_trans (grown_drewN hG5 1) hg9; have HO9 := Lib.hid (own_keep (own_ext HO.out (by with_reducible (repeat (first | exact Ext.refl _ | apply Ext.drewN | apply Ext.drew | apply Ext.alloc | (refine Ext.set ?_ (by first | (simp; done) | (simp; omega) | omega) _) | (refine Ext.trans ?_ (by assumption)))))) hg9 (by omega)); obtain ⟨⟨q90, q91⟩, f90, f91⟩ := pair_at hf9; obtain ⟨⟨r90, r91⟩, s90, s91⟩ := pair_at hr9))
    (try (rename_i hHeld; clear hHeld))
    have HS : Hid (Srd w0 w9 g A n c xs (top + 600)) := hs9.more (by omega)
    have HG := Lib.hid hG9
    clear hf9 hr9 hG9 hs9 hg9
    go_wp2
    refine bodyPost_ret (v := .tuple #[.slice B m d, .agg #[.int .i64 b, .int .i64 d1], .int .i64 v]) (by simp [results, Try.results23, go_sem, *]) rfl ⟨B, m, d, ys, b, d1, v, rfl, ?_, hm.2, HB.out, ?_, ?_⟩
    · (repeat (refine own_other ?_ (fun k hk => by have := hvo.out k hk; show k ≠ w.heap.size; omega) _))
      exact ownsRow_le HO9.out (by omega)
    · (repeat (refine Srd.set ?_ (by show w0.heap.size ≤ w.heap.size; omega) (by show w.heap.size ≠ g; omega) _))
      exact HS.out
    · (repeat (refine grown_set ?_ (by show w.heap.size ≤ w.heap.size; omega) _))
      exact HG.out
end Go.Proofs.Ytbaabghehpcjnaa
