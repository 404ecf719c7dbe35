/- Drawn orders of hands: contracts of l00Own, l14Draw, l14Bent, l14Ask. No condition but the stated bounds. -/
import Derived.Test.YtendemigegjbfaaDrw
import Derived.Test.YtendemigegjbfaaLow
namespace Go.Proofs.Ytendemigegjbfaa
set_option linter.unusedVariables false
set_option linter.unusedSimpArgs false
open Go.RowKit Go.Joins

/-- What is read of a row of the call's own. -/
theorem own_ints {w : World} {lo : Nat} {A : Option Addr} {n c : Nat} {ys : List Int} (h : w.ownsRow lo 2 1 (.slice A n c) n (ys.map (Value.int .i64))) (hn : n ≤ 1000000) (hb : ∀ y ∈ ys, -100 ≤ y ∧ y ≤ 100) : Ints w A n ys :=
  Ints.of_own h (by omega) (fun y hy => by have := hb y hy; omega)
theorem ownr_cap {w : World} {lo : Nat} {e : TypeId} {m : Nat} {A : Option Addr} {n c : Nat} {cs : List Value} (h : w.ownsRow lo e m (.slice A n c) n cs) : n ≤ c := by
  rcases h.2 with ⟨h0, h1⟩ | ⟨g, cap, cur, ev, hb, hg, hle, rest⟩
  · injection h0 with a1 a2 a3; omega
  · injection ev with a1 a2 a3; omega
theorem take_bd {zs : List Int} {lo hi : Int} (h : ∀ y ∈ zs, lo ≤ y ∧ y ≤ hi) (a : Nat) : ∀ y ∈ zs.take a, lo ≤ y ∧ y ≤ hi := fun y hy => h y (List.mem_of_mem_take hy)
theorem drop_bd {zs : List Int} {lo hi : Int} (h : ∀ y ∈ zs, lo ≤ y ∧ y ≤ hi) (a : Nat) : ∀ y ∈ zs.drop a, lo ≤ y ∧ y ≤ hi := fun y hy => h y (List.mem_of_mem_drop hy)
theorem cat_bd {xs ys : List Int} {lo hi : Int} (h : ∀ y ∈ xs, lo ≤ y ∧ y ≤ hi) (k : ∀ y ∈ ys, lo ≤ y ∧ y ≤ hi) : ∀ y ∈ xs ++ ys, lo ≤ y ∧ y ≤ hi := fun y hy => by
  rw [List.mem_append] at hy
  rcases hy with h1 | h1
  · exact h y h1
  · exact k y h1
set_option maxHeartbeats 4000000 in
set_option maxRecDepth 100000 in
theorem l14Draw_any (w0 w : World) (g : Nat) (A : Option Addr) (n c : Nat) (xs : List Int) (top : Nat) (h : Srd w0 w g A n c xs top) (ht : top ≤ 800000000) :
    Calls Try.prog 81 #[.pointer (some ⟨g, 0, none⟩)] w (DrawnL w0 w g A n c xs (top + 30) 1 2) := by
  have hlt := h.lt
  have hO := own_new w (lo := w.heap.size) (Nat.le_refl _)
  have hG0 := grown_new (World.grownBy.refl w (some g)) (.cells #[] 2)
  go_enter Try.func81, Try.ntmps81
  go_wp2_with fail
  (with_reducible refine (pick_any 3 w0 _ g A n c xs top (h.after (by with_reducible (repeat (first | exact Ext.refl _ | apply Ext.drewN | apply Ext.drew | apply Ext.alloc | (refine Ext.set ?_ (by first | (simp; done) | (simp; omega) | omega) _) | (refine Ext.trans ?_ (by assumption)))))) (by omega)).mono ?_)
  rintro e w1 ⟨x, rfl, hx, hs1, hg1⟩
  obtain ⟨r, hr⟩ : ∃ r : Nat, 1 + x = r := ⟨(1 + x).toNat, by omega⟩
  have hr3 : 1 ≤ r ∧ r ≤ 3 := by omega
  have hO1 := own_keep hO hg1 hlt
  have hG1 := grown_trans hG0 hg1
  go_wp2
  go_loopw [3, 5] (fun v i wr => ∃ (k : Nat) (zs : List Int), k ≤ r ∧ i = .int .i64 k ∧ wr.ownsRow w.heap.size 2 1 v k (zs.map (Value.int .i64)) ∧ (∀ y ∈ zs, 0 ≤ y ∧ y ≤ 2) ∧ Srd w0 wr g A n c xs (top + 2) ∧ w.grownBy wr (some g)) (fun _ i _ => r - (intOf i).toNat)
  case atStart => exact ⟨0, [], by omega, rfl, hO1, by simp, hs1, hG1⟩
  case round =>
    obtain ⟨k, zs, hk, rfl, hzo, hzb, hsr, hgr⟩ := hrel
    have hzr := hgr.size
    by_cases hkr : k < r
    · have hki : (k : Int) < r := by omega
      go_wp2_with (first | (at_builtin; refine appL elInt (by omega) rfl _ _ Try.underlying24 rfl rfl (own_ext hzo ((Ext.refl _).alloc _)) (by simp; omega) (by omega) rfl (heap_alloc_new _ _) (ys := [_]) (by rfl) (by rfl) ?_; intro v' w5 hown5 hg5))
      go_roundw
      case rel => exact ⟨k + 1, _, by omega, by go_num, hown5, app_bd hzb (by omega), (hsr.after ((Ext.refl _).alloc _)).own hg5 (fun b hb => Nat.lt_of_lt_of_le hlt (World.ownsRow.lt hzo b hb).1), grown_own (grown_new hgr _) hg5 (fun b hb => (World.ownsRow.lt hzo b hb).1)⟩
      case measure => simp [intOf]; omega
    · obtain rfl : k = r := by omega
      go_wp2_with fail
      (with_reducible refine (pick_any 4 w0 _ g A n c xs _ hsr (by omega)).mono ?_)
      rintro e w2 ⟨x2, rfl, hx2, hs2, hg2⟩
      obtain ⟨q, rfl⟩ : ∃ q : Nat, x2 = q := ⟨x2.toNat, by omega⟩
      have hzo2 := own_keep hzo hg2 hlt
      have hG2 := grown_trans hgr hg2
      go_wp2
      go_loopw [3, 6, 7, 8] (fun v i _ _ wr => ∃ (j m : Nat) (zs : List Int), i = .int .i64 j ∧ j ≤ 3 ∧ 1 ≤ m ∧ m + j ≤ 6 ∧ wr.ownsRow w.heap.size 2 1 v m (zs.map (Value.int .i64)) ∧ (∀ y ∈ zs, 0 ≤ y ∧ y ≤ 2) ∧ Srd w0 wr g A n c xs (top + 30 - 6 * j) ∧ w.grownBy wr (some g)) (fun _ i _ _ _ => (intOf i).toNat)
      case atStart => exact ⟨q, k, zs, rfl, by omega, by omega, by omega, hzo2, hzb, hs2.more (by omega), hG2⟩
      case round =>
        obtain ⟨j, m, zs, rfl, hj, hm1, hm, hzo, hzb, hsr, hgr⟩ := hrel
        obtain ⟨g1, c1, hv1, hg1a, hg1b⟩ := World.ownsRow.form hzo (by omega)
        subst hv1
        have hzr := hgr.size
        have hcap := ownr_cap hzo
        by_cases hj0 : 0 < j
        · have hji : (0 : Int) < j := by omega
          go_wp2_with fail
          (with_reducible refine (pick_any (m + 1) w0 _ g A n c xs _ hsr (by omega)).mono ?_)
          rintro e w3 ⟨x3, rfl, hx3, hs3, hg3⟩
          obtain ⟨a, rfl⟩ : ∃ a : Nat, x3 = a := ⟨x3.toNat, by omega⟩
          have ham : a ≤ m := by omega
          have hami : (a : Int) ≤ c1 := by omega
          have hami2 : (a : Int) ≤ m := by omega
          have hzo3 := own_keep hzo hg3 hlt
          have hG3 := grown_trans hgr hg3
          have hI3 := own_ints hzo3 (by omega) (fun y hy => by have := hzb y hy; omega)
          have hz3 := hg3.size
          go_wp2_with fail
          (with_reducible refine (l00Own_any _ a _ (zs.take a) _ (hI3.take ham) (by omega)).mono ?_)
          rintro e w4 ⟨A4, c4, rfl, ho4⟩
          have hz4 := ho4.ext.size
          have hs4 := hs3.after ho4.ext
          have hG4 := grown_exts hG3 ho4.ext
          have hI4 := hI3.ext ho4.ext
          have hown4 := ho4.own
          go_wp2_with fail
          (with_reducible refine (pick_any k w0 _ g A n c xs _ hs4 (by omega)).mono ?_)
          rintro e w5 ⟨x5, rfl, hx5, hs5, hg5⟩
          have hown5 := own_keep hown4 hg5 (by omega)
          have hzo5 := own_keep (own_ext hzo3 ho4.ext) hg5 hlt
          have hG5 := grown_trans hG4 hg5
          have hz5 := hg5.size
          have hs5' := hs5.after (show Ext w5 (w5.alloc (.cells #[.int .i64 x5] 2)) from (by with_reducible (repeat (first | exact Ext.refl _ | apply Ext.drewN | apply Ext.drew | apply Ext.alloc | (refine Ext.set ?_ (by first | (simp; done) | (simp; omega) | omega) _) | (refine Ext.trans ?_ (by assumption))))))
          have hG5' := grown_new hG5 (.cells #[.int .i64 x5] 2)
          have hd1 : (⟨g1, 0 + a, none⟩ : Addr) = ⟨g1, a, none⟩ := by rw [Nat.zero_add]
          rcases (show (a = c1 ∧ a = m) ∨ (¬ a = c1 ∧ ¬ c1 = a ∧ a < c1 ∧ (a : Int) < c1) by omega) with ⟨hc1, hc2⟩ | ⟨hn1, hn2, hn3, hn4⟩
          · subst hc1
            subst hc2
            go_wp2_with (first | (at_builtin; refine appL elInt (by omega) rfl _ _ Try.underlying24 rfl rfl (own_ext hown5 ((Ext.refl _).alloc _)) (by simp; omega) (by omega) rfl (heap_alloc_new _ _) (ys := [x5]) (by rfl) (by rfl) ?_; intro v6 w6 hown6 hg6; have hzo6 := own_far (own_ext hzo5 ((Ext.refl _).alloc _)) hg6 (fun b hb e => by have h1 := (World.ownsRow.lt hown5 b hb).1; cases e; have h2 : w3.heap.size ≤ g1 := h1; omega); have hs6 := hs5'.own hg6 (fun b hb => by have h1 := (World.ownsRow.lt hown5 b hb).1; omega); have hG6 := grown_own hG5' hg6 (fun b hb => by have h1 := (World.ownsRow.lt hown5 b hb).1; omega); have hz6 := hg6.size; have hI6 : Ints w6 (some ⟨g1, 0, none⟩) 0 (zs.drop a) := ⟨by rw [List.length_drop, hI3.len]; omega, by omega, (fun y hy => by have := drop_bd hzb a y hy; omega), fun h0 => absurd h0 (by omega)⟩; obtain ⟨B6, d6, hv6⟩ : ∃ B d, v6 = .slice B (a + 1) d := (by obtain ⟨g6, c6, e6, _⟩ := World.ownsRow.form hown6 (by omega); exact ⟨_, _, e6⟩); subst hv6) | (at_builtin; refine appI rfl _ _ rfl rfl hown6 (by simp at hz6; omega) rfl hI6 (by omega) ?_; intro v7 w7 hown7 hg7 _))
            go_roundw
            case rel =>
              have hown7' : w7.ownsRow w.heap.size 2 1 v7 (a + 1) (((zs.take a ++ [x5]) ++ zs.drop a).map (Value.int .i64)) := by have := ownsRow_le hown7 (show w.heap.size ≤ w3.heap.size by omega); exact this
              exact ⟨j - 1, a + 1, _, by rw [show ((j - 1 : Nat) : Int) = (j : Int) - 1 by omega], by omega, by omega, by omega, hown7', cat_bd (app_bd (take_bd hzb a) (by omega)) (drop_bd hzb a), (hs6.own hg7 (fun b hb => by have h1 := (World.ownsRow.lt hown6 b hb).1; omega)).more (by omega), grown_own hG6 hg7 (fun b hb => by have h1 := (World.ownsRow.lt hown6 b hb).1; omega)⟩
            case measure => simp [intOf]; omega
          · go_wp2_with (first | (at_builtin; refine appL elInt (by omega) rfl _ _ Try.underlying24 rfl rfl (own_ext hown5 ((Ext.refl _).alloc _)) (by simp; omega) (by omega) rfl (heap_alloc_new _ _) (ys := [x5]) (by rfl) (by rfl) ?_; intro v6 w6 hown6 hg6; have hzo6 := own_far (own_ext hzo5 ((Ext.refl _).alloc _)) hg6 (fun b hb e => by have h1 := (World.ownsRow.lt hown5 b hb).1; cases e; have h2 : w3.heap.size ≤ g1 := h1; omega); have hs6 := hs5'.own hg6 (fun b hb => by have h1 := (World.ownsRow.lt hown5 b hb).1; omega); have hG6 := grown_own hG5' hg6 (fun b hb => by have h1 := (World.ownsRow.lt hown5 b hb).1; omega); have hz6 := hg6.size; have hI6 := (own_ints hzo6 (by omega) (fun y hy => by have := hzb y hy; omega)).drop ham; rw [hd1] at hI6; obtain ⟨B6, d6, hv6⟩ : ∃ B d, v6 = .slice B (a + 1) d := (by obtain ⟨g6, c6, e6, _⟩ := World.ownsRow.form hown6 (by omega); exact ⟨_, _, e6⟩); subst hv6) | (at_builtin; refine appI rfl _ _ rfl rfl hown6 (by simp at hz6; omega) rfl hI6 (by omega) ?_; intro v7 w7 hown7 hg7 _))
            go_roundw
            case rel =>
              have hown7' : w7.ownsRow w.heap.size 2 1 v7 (m + 1) (((zs.take a ++ [x5]) ++ zs.drop a).map (Value.int .i64)) := by have := ownsRow_le hown7 (show w.heap.size ≤ w3.heap.size by omega); rwa [show a + 1 + (m - a) = m + 1 by omega] at this
              exact ⟨j - 1, m + 1, _, by rw [show ((j - 1 : Nat) : Int) = (j : Int) - 1 by omega], by omega, by omega, by omega, hown7', cat_bd (app_bd (take_bd hzb a) (by omega)) (drop_bd hzb a), (hs6.own hg7 (fun b hb => by have h1 := (World.ownsRow.lt hown6 b hb).1; omega)).more (by omega), grown_own hG6 hg7 (fun b hb => by have h1 := (World.ownsRow.lt hown6 b hb).1; omega)⟩
            case measure => simp [intOf]; omega
        · obtain rfl : j = 0 := by omega
          have HF : Hid (DrawnL w0 w g A n c xs (top + 30) 1 2 (.returned (.slice (some ⟨g1, 0, none⟩) m c1)) wr) := DrawnL.of_row hzo (by omega) (fun y hy => by have := hzb y hy; omega) (hsr.more (by omega)) hgr
          go_wp2
          go_ret
          exact HF.out
theorem own_made (W : World) (lo r : Nat) (hlo : lo ≤ W.heap.size) (hr : r ≤ 1000) : (W.alloc (.cells (madeCells #[.int .i64 0] r) 2)).ownsRow lo 2 1 (.slice (some ⟨W.heap.size, 0, none⟩) r r) r ((List.replicate r (0 : Int)).map (Value.int .i64)) := by
  have hm : (madeCells #[Value.int .i64 0] r).toList = (List.replicate r (0 : Int)).map (Value.int .i64) := by
    rw [List.map_replicate]
    simp [madeCells]
    apply List.ext_getElem <;> simp [Nat.mod_one]
  refine ⟨by simp, .inr ⟨W.heap.size, r, madeCells #[.int .i64 0] r, rfl, hlo, heap_alloc_new _ _, Nat.le_refl _, by unfold maxLen; omega, by simp [size_madeCells], ?_⟩⟩
  rw [hm]
  exact List.take_of_length_le (by simp)
set_option maxHeartbeats 4000000 in
set_option maxRecDepth 100000 in
theorem l14Bent_any (w0 w : World) (g : Nat) (A : Option Addr) (n c : Nat) (xs : List Int) (top : Nat) (h : Srd w0 w g A n c xs top) (ht : top ≤ 700000000) :
    Calls Try.prog 55 #[.pointer (some ⟨g, 0, none⟩)] w (DrawnL w0 w g A n c xs (top + 40) 0 4) := by
  have hlt := h.lt
  have hmk := fun (r : Nat) (hr : r ≤ 13) W => run_make_row' (P := Try.prog) 24 2 (.int .i64 0) 8 Try.underlying24 infoInt rfl .i64 .i64 r (by omega) (by omega) W
  have HMK := Lib.hid hmk
  clear hmk
  go_enter Try.func55, Try.ntmps55
  go_wp2_with fail
  (with_reducible refine (l14Draw_any w0 _ g A n c xs top h (by omega)).mono ?_)
  rintro e w1 ⟨B, m, d, ys, rfl, hown, hm, hbd, hs1, hg1⟩
  obtain ⟨gl, cl, hvl, hgl1, hgl2⟩ := World.ownsRow.form hown (by omega)
  cases hvl
  have hz1 := hg1.size
  have HB := Lib.hid hbd
  clear hbd
  go_wp2_with fail
  (with_reducible refine (pick_any m w0 _ g A n c xs _ hs1 (by omega)).mono ?_)
  rintro e w2 ⟨x, rfl, hx, hs2, hg2⟩
  obtain ⟨a, rfl⟩ : ∃ a : Nat, x = a := ⟨x.toNat, by omega⟩
  have ham : a < m := by omega
  have hami : (a : Int) < m := by omega
  have hown2 := own_keep hown hg2 hlt
  have hG2 := grown_trans hg1 hg2
  have hz2 := hg2.size
  go_wp2_with fail
  (with_reducible refine (pick_any 16 w0 _ g A n c xs _ hs2 (by omega)).mono ?_)
  rintro e w3 ⟨x3, rfl, hx3, hs3, hg3⟩
  have hown3 := own_keep hown2 hg3 hlt
  have hG3 := grown_trans hG2 hg3
  have hz3 := hg3.size
  have hx3c : x3 = 0 ∨ x3 = 1 ∨ x3 = 2 ∨ 3 ≤ x3 := by omega
  rcases hx3c with rfl | rfl | rfl | hx4
  · have hI : Ints (w3.alloc (.cells #[.int .i64 (-1), .int .i64 3, .int .i64 4] 2)) (some ⟨w3.heap.size, 0, none⟩) 3 [-1, 3, 4] := ⟨rfl, by omega, by intro x hx; simp at hx; omega, fun _ => ⟨w3.heap.size, 0, rfl, by simp, fun i hi => by
      obtain rfl | rfl | rfl : i = 0 ∨ i = 1 ∨ i = 2 := by omega
      · exact (cell_of_block (heap_alloc_new w3 _) 0).trans rfl
      · exact (cell_of_block (heap_alloc_new w3 _) 1).trans rfl
      · exact (cell_of_block (heap_alloc_new w3 _) 2).trans rfl⟩⟩
    have hlt3 := hs3.lt
    go_wp2_with fail
    (with_reducible refine (among_any _ 3 _ [-1, 3, 4] w0 _ g A n c xs _ (hs3.after (by with_reducible (repeat (first | exact Ext.refl _ | apply Ext.drewN | apply Ext.drew | apply Ext.alloc | (refine Ext.set ?_ (by first | (simp; done) | (simp; omega) | omega) _) | (refine Ext.trans ?_ (by assumption)))))) (by omega) hI (by omega) (by rintro a e; cases e; show w3.heap.size ≠ g; omega)).mono ?_)
    rintro e w4 ⟨y, rfl, hy, hs4, hg4⟩
    have hyb2 : -20 ≤ y ∧ y ≤ 4 := by simp at hy; omega
    have hown4 := own_keep (own_ext hown3 (show Ext w3 (w3.alloc (.cells #[.int .i64 (-1), .int .i64 3, .int .i64 4] 2)) from (by with_reducible (repeat (first | exact Ext.refl _ | apply Ext.drewN | apply Ext.drew | apply Ext.alloc | (refine Ext.set ?_ (by first | (simp; done) | (simp; omega) | omega) _) | (refine Ext.trans ?_ (by assumption))))))) hg4 hlt
    have hG4 := grown_trans (grown_new hG3 _) hg4
    obtain ⟨hc4, hf4⟩ := own_cell hown4 (p := a) ham
    have HF : Hid (DrawnL w0 w g A n c xs (top + 40) 0 4 (.returned (.slice (some ⟨gl, 0, none⟩) m d)) (w4.setCell ⟨gl, a, none⟩ (.int .i64 y))) := DrawnL.of_row (own_store hown4 a y) (by omega) (set_bd (fun z hz => by have := HB.out z hz; omega) hyb2 a) ((hs4.put (by show g < gl; omega) _).more (by omega)) (grown_put hG4 (by show w.heap.size ≤ gl; omega) _)
    go_wp2
    go_ret
    exact HF.out
  · have HF : Hid (DrawnL w0 w g A n c xs (top + 40) 0 4 (.returned (.slice (some ⟨w3.heap.size, 0, none⟩) 0 0)) (w3.alloc (.cells #[] 2))) := DrawnL.of_row (own_new w3 (by omega)) (by omega) (by simp) ((hs3.after (by with_reducible (repeat (first | exact Ext.refl _ | apply Ext.drewN | apply Ext.drew | apply Ext.alloc | (refine Ext.set ?_ (by first | (simp; done) | (simp; omega) | omega) _) | (refine Ext.trans ?_ (by assumption)))))).more (by omega)) (grown_new hG3 _)
    go_wp2
    go_ret
    exact HF.out
  · go_wp2_with fail
    (with_reducible refine (pick_any 2 w0 _ g A n c xs _ hs3 (by omega)).mono ?_)
    rintro e w4 ⟨y, rfl, hy, hs4, hg4⟩
    obtain ⟨r, hr⟩ : ∃ r : Nat, 12 + y = r := ⟨(12 + y).toNat, by omega⟩
    have hr13 : r ≤ 13 := by omega
    have hmk := HMK.out r hr13
    have hG4 := grown_trans hG3 hg4
    have hz4 := hg4.size
    have HF : Hid (DrawnL w0 w g A n c xs (top + 40) 0 4 (.returned (.slice (some ⟨w4.heap.size, 0, none⟩) r r)) (w4.alloc (.cells (madeCells #[.int .i64 0] r) 2))) := DrawnL.of_row (own_made w4 _ r (by omega) (by omega)) (by omega) (fun y hy => by have := List.eq_of_mem_replicate hy; omega) ((hs4.after (by with_reducible (repeat (first | exact Ext.refl _ | apply Ext.drewN | apply Ext.drew | apply Ext.alloc | (refine Ext.set ?_ (by first | (simp; done) | (simp; omega) | omega) _) | (refine Ext.trans ?_ (by assumption)))))).more (by omega)) (grown_new hG4 _)
    go_wp2
    go_ret
    exact HF.out
  · have HF : Hid (DrawnL w0 w g A n c xs (top + 40) 0 4 (.returned (.slice (some ⟨gl, 0, none⟩) m d)) w3) := DrawnL.of_row hown3 (by omega) (fun z hz => by have := HB.out z hz; omega) (hs3.more (by omega)) hG3
    have h0 : (x3 == 0) = false := by simp; omega
    have h1 : (x3 == 1) = false := by simp; omega
    have h2 : (x3 == 2) = false := by simp; omega
    go_wp2
    go_ret
    exact HF.out
end Go.Proofs.Ytendemigegjbfaa
