/- Drawn patterns: contract of l10Draw. No condition but the stated bounds. -/
import Derived.Test.YtbaabghehpcjnaaMot1
namespace Go.Proofs.Ytbaabghehpcjnaa
set_option linter.unusedVariables false
set_option linter.unusedSimpArgs false
open Go.RowKit Go.Joins

abbrev txts : Array Value := #[.string ⟨#[51]⟩, .string ⟨#[53, 51, 49]⟩, .string ⟨#[52, 52, 49]⟩, .string ⟨#[53, 49]⟩, .string ⟨#[52, 50, 51]⟩, .string ⟨#[52, 50]⟩, .string ⟨#[51, 49, 50]⟩, .string ⟨#[52]⟩, .string ⟨#[53, 51]⟩, .string ⟨#[52, 48]⟩, .string ⟨#[50]⟩, .string ⟨#[53, 48, 49]⟩, .string ⟨#[54, 48]⟩, .string ⟨#[51, 51, 48]⟩]
theorem txts_str : ∀ i, i < 14 → ∃ s : ByteArray, s.size ≤ 8 ∧ txts[i]? = some (.string s) := fun i hi => by
  (obtain rfl | rfl | rfl | rfl | rfl | rfl | rfl | rfl | rfl | rfl | rfl | rfl | rfl | rfl : i = 0 ∨ i = 1 ∨ i = 2 ∨ i = 3 ∨ i = 4 ∨ i = 5 ∨ i = 6 ∨ i = 7 ∨ i = 8 ∨ i = 9 ∨ i = 10 ∨ i = 11 ∨ i = 12 ∨ i = 13 := by omega) <;> exact ⟨_, by decide, rfl⟩
theorem txts_cells (w : World) : ∀ i, i < 14 → ∃ s : ByteArray, s.size ≤ 8 ∧ (w.alloc (.cells txts 9)).cell? ⟨w.heap.size, i, none⟩ = some (.string s) := fun i hi => by
  obtain ⟨s, h1, h2⟩ := txts_str i hi
  exact ⟨s, h1, (cell_of_block (heap_alloc_new w _) i).trans h2⟩
theorem srd_far {w0 w w' : World} {g n c top : Nat} {A : Option Addr} {xs : List Int} (h : Srd w0 w g A n c xs top) (k : Ext w w') : Srd w0 w' g A n c xs top := h.after k
set_option maxHeartbeats 4000000 in
set_option maxRecDepth 100000 in
theorem l10Draw_any (w0 w : World) (g : Nat) (A : Option Addr) (n c : Nat) (xs : List Int) (top : Nat) (h : Srd w0 w g A n c xs top) (ht : top ≤ 700000000) :
    Calls Try.prog 44 #[.pointer (some ⟨g, 0, none⟩)] w (DrawnL w0 w g A n c xs (top + 500) 0 16) := by
  have hlt := h.lt
  go_enter Try.func44, Try.ntmps44
  go_wp2_with fail
  (with_reducible refine (one_any 12 w0 _ g A n c xs top h (by omega)).mono ?_)
  rintro e wA ⟨bA, rfl, hsA, hgA⟩
  have hzA := hgA.size
  cases bA
  case true =>
    go_wp2_with fail
    (with_reducible refine (l02Bent_any w0 _ g A n c xs _ hsA (by omega)).mono ?_)
    rintro e wB ⟨B, m, d, ys, rfl, hown, hm, hbd, hs1, hg1⟩
    have HF : Hid (DrawnL w0 w g A n c xs (top + 500) 0 16 (.returned (.slice B m d)) wB) := DrawnL.of_row (ownsRow_le hown hzA) hm hbd (hs1.more (by omega)) (grown_trans hgA hg1)
    clear hown hbd
    go_wp2
    go_ret
    exact HF.out
  case false =>
  go_wp2_with fail
  (with_reducible refine (one_any 3 w0 _ g A n c xs _ hsA (by omega)).mono ?_)
  rintro e wB ⟨bB, rfl, hsB, hgB⟩
  have hGB := grown_trans hgA hgB
  have hzB := hGB.size
  cases bB
  case true =>
    have hltB := hsB.lt
    go_wp2_with fail
    (with_reducible refine (text_any wB.heap.size 14 w0 _ g A n c xs _ (hsB.after (by with_reducible (repeat (first | exact Ext.refl _ | apply Ext.drewN | apply Ext.drew | apply Ext.alloc | (refine Ext.set ?_ (by first | (simp; done) | (simp; omega) | omega) _) | (refine Ext.trans ?_ (by assumption)))))) (by omega) (by omega) (by simp) (by omega) (txts_cells wB)).mono ?_)
    rintro e wC ⟨s, rfl, hss, hsC, hgC⟩
    have hGC := grown_trans (grown_new hGB _) hgC
    have hzC := hGC.size
    go_wp2_with fail
    (with_reducible refine (l02Read_any s _ hss).mono ?_)
    rintro e wD ⟨B, d, ys, rfl, hown, hbd, hxD⟩
    have HF : Hid (DrawnL w0 w g A n c xs (top + 500) 0 16 (.returned (.slice B s.size d)) wD) := DrawnL.of_row (ownsRow_le hown hzC) (by omega) (fun y hy => by have := hbd y hy; omega) ((hsC.after hxD).more (by omega)) (grown_exts hGC hxD)
    clear hown hbd
    go_wp2
    go_ret
    exact HF.out
  case false =>
  go_wp2_with fail
  (with_reducible refine (pick_any 4 w0 _ g A n c xs _ hsB (by omega)).mono ?_)
  rintro e w1 ⟨x, rfl, hx, hs1, hg1'⟩
  have hg1 := grown_trans hGB hg1'
  obtain ⟨r, hr⟩ : ∃ r : Nat, 1 + x = r := ⟨(1 + x).toNat, by omega⟩
  have hr7 : 1 ≤ r ∧ r ≤ 4 := by omega
  have hz1 := hg1.size
  have hg2 := grown_new hg1 (.cells #[] 2)
  have hs2 := hs1.after (show Ext w1 (w1.alloc (.cells #[] 2)) from (by with_reducible (repeat (first | exact Ext.refl _ | apply Ext.drewN | apply Ext.drew | apply Ext.alloc | (refine Ext.set ?_ (by first | (simp; done) | (simp; omega) | omega) _) | (refine Ext.trans ?_ (by assumption))))))
  go_wp2
  go_loopw [4, 5, 6] (fun v i _ wr => ∃ (k : Nat) (ys : List Int), k ≤ r ∧ i = .int .i64 k ∧ wr.ownsRow w.heap.size 2 1 v k (ys.map (Value.int .i64)) ∧ (∀ y ∈ ys, 0 ≤ y ∧ y ≤ 6) ∧ Srd w0 wr g A n c xs (top + 6 + 2 * k) ∧ w.grownBy wr (some g)) (fun _ i _ _ => r - (intOf i).toNat)
  case atStart => exact ⟨0, [], by omega, rfl, own_new w1 hz1, by simp, hs2, hg2⟩
  case round =>
    obtain ⟨k, ys, hk, rfl, hown, hbd, hsr, hgr⟩ := hrel
    by_cases hkr : k < r
    · have hki : (k : Int) < r := by omega
      have hzr := hgr.size
      have HB := Lib.hid hbd
      clear hbd
      go_wp2_with fail
      (with_reducible refine (pick_any (k + 1) w0 _ g A n c xs _ hsr (by omega)).mono ?_)
      rintro e w2 ⟨x2, rfl, hx2, hs3, hg3⟩
      obtain ⟨a, rfl⟩ : ∃ a : Nat, x2 = a := ⟨x2.toNat, by omega⟩
      have hgr2 := grown_trans hgr hg3
      have hown2 := own_keep hown hg3 hlt
      have hz2 := hgr2.size
      have hak : a = k ∨ (a < k ∧ (a : Int) < k) := by omega
      have hyl : ys.length = k := by have := hown.1; simpa using this
      have HZ : Hid (∀ y ∈ ((ys ++ [(k : Int)]).set k ((ys ++ [(k : Int)])[a]?.getD 0)).set a (k : Int), 0 ≤ y ∧ y ≤ 6) := by
        have h1 := app_bd (v := (k : Int)) HB.out (by omega)
        exact set_bd (set_bd h1 (getDbd h1 (by simp; omega)) k) (by omega) a
      clear hyl
      have hs4 := hs3.after (show Ext w2 (w2.alloc (.cells #[.int .i64 k] 2)) from (by with_reducible (repeat (first | exact Ext.refl _ | apply Ext.drewN | apply Ext.drew | apply Ext.alloc | (refine Ext.set ?_ (by first | (simp; done) | (simp; omega) | omega) _) | (refine Ext.trans ?_ (by assumption))))))
      have hgr3 := grown_new hgr2 (.cells #[.int .i64 k] 2)
      rcases hak with rfl | ⟨hak, haki⟩
      · go_wp2_with (first | (at_builtin; refine appL elInt (by omega) rfl _ _ Try.underlying24 rfl rfl (own_ext hown2 ((Ext.refl _).alloc _)) (by simp; omega) (by omega) rfl (heap_alloc_new _ _) (ys := [_]) (by rfl) (by rfl) ?_; intro v' w3 hown3 hg4; obtain ⟨g1, c1, hv1, hg1a, hg1b⟩ := World.ownsRow.form hown3 (by omega); subst hv1; obtain ⟨hcA, hfA⟩ := own_cell hown3 (p := a) (by omega)))
        go_roundw
        case rel => exact ⟨a + 1, _, by omega, by go_num, own_store (own_store hown3 _ _) _ _, HZ.out, ((hs4.own hg4 (fun b hb => Nat.lt_of_lt_of_le hlt (World.ownsRow.lt hown2 b hb).1)).put (by show g < g1; omega) _).put (by show g < g1; omega) _, grown_put (grown_put (grown_own hgr3 hg4 (fun b hb => (World.ownsRow.lt hown2 b hb).1)) (by show w.heap.size ≤ g1; omega) _) (by show w.heap.size ≤ g1; omega) _⟩
        case measure => simp [intOf]; omega
      · go_wp2_with (first | (at_builtin; refine appL elInt (by omega) rfl _ _ Try.underlying24 rfl rfl (own_ext hown2 ((Ext.refl _).alloc _)) (by simp; omega) (by omega) rfl (heap_alloc_new _ _) (ys := [_]) (by rfl) (by rfl) ?_; intro v' w3 hown3 hg4; obtain ⟨g1, c1, hv1, hg1a, hg1b⟩ := World.ownsRow.form hown3 (by omega); subst hv1; obtain ⟨hcA, hfA⟩ := own_cell hown3 (p := a) (by omega); obtain ⟨hcK, hfK⟩ := own_cell hown3 (p := k) (by omega)))
        go_roundw
        case rel => exact ⟨k + 1, _, by omega, by go_num, own_store (own_store hown3 _ _) _ _, HZ.out, ((hs4.own hg4 (fun b hb => Nat.lt_of_lt_of_le hlt (World.ownsRow.lt hown2 b hb).1)).put (by show g < g1; omega) _).put (by show g < g1; omega) _, grown_put (grown_put (grown_own hgr3 hg4 (fun b hb => (World.ownsRow.lt hown2 b hb).1)) (by show w.heap.size ≤ g1; omega) _) (by show w.heap.size ≤ g1; omega) _⟩
        case measure => simp [intOf]; omega
    · obtain rfl : k = r := by omega
      have hyl : ys.length = k := by have := hown.1; simpa using this
      obtain ⟨gl, cl, hvl, hgl1, hgl2⟩ := World.ownsRow.form hown (by omega)
      subst hvl
      have HB := Lib.hid hbd
      clear hbd
      obtain ⟨wo, rfl⟩ : ∃ wo : World, wo = wr := ⟨_, rfl⟩
      have hs2' := hsr.after (show Ext wo (wo.alloc (.cells #[] 2)) from (by with_reducible (repeat (first | exact Ext.refl _ | apply Ext.drewN | apply Ext.drew | apply Ext.alloc | (refine Ext.set ?_ (by first | (simp; done) | (simp; omega) | omega) _) | (refine Ext.trans ?_ (by assumption))))))
      have hgr2' := grown_new hgr (.cells #[] 2)
      have hown1 := own_ext hown (show Ext wo (wo.alloc (.cells #[] 2)) from (by with_reducible (repeat (first | exact Ext.refl _ | apply Ext.drewN | apply Ext.drew | apply Ext.alloc | (refine Ext.set ?_ (by first | (simp; done) | (simp; omega) | omega) _) | (refine Ext.trans ?_ (by assumption))))))
      have hzr := hgr.size
      go_wp2
      go_loopw [7, 8, 9] (fun v i _ wy => ∃ (j : Nat) (zs : List Int) (vv : Value), j ≤ k ∧ i = .int .i64 j ∧ vv = v ∧ wy.ownsRow wo.heap.size 2 1 vv j (zs.map (Value.int .i64)) ∧ (∀ y ∈ zs, 0 ≤ y ∧ y ≤ 9) ∧ wy.ownsRow w.heap.size 2 1 (.slice (some ⟨gl, 0, none⟩) k cl) k (ys.map (Value.int .i64)) ∧ Srd w0 wy g A n c xs (top + 20 + 30 * j) ∧ w.grownBy wy (some g) ∧ wo.heap.size ≤ wy.heap.size) (fun _ i _ _ => k - (intOf i).toNat)
      case atStart => exact ⟨0, [], _, by omega, rfl, rfl, own_new wo (Nat.le_refl _), by simp, hown1, hs2'.more (by omega), hgr2', by simp⟩
      case round =>
        obtain ⟨j, zs, vv, hj, rfl, rfl, hzo, hzb, hlo, hsy, hgy, hzy⟩ := hrel
        by_cases hjk : j < k
        · have hji : (j : Int) < k := by omega
          have HZB := Lib.hid hzb
          clear hzb
          obtain ⟨hcj, _⟩ := own_cell hlo (p := j) hjk
          have hyb := getDbd HB.out (i := j) (by omega)
          have e1 := Int.emod_nonneg (ys[j]?.getD 0 - j) (show (k : Int) ≠ 0 by omega)
          have e2 := Int.emod_lt_of_pos (ys[j]?.getD 0 - j) (show 0 < (k : Int) by omega)
          obtain ⟨t0, ht0⟩ : ∃ t0 : Nat, (ys[j]?.getD 0 - j) % (k : Int) = t0 := ⟨_, (Int.toNat_of_nonneg e1).symm⟩
          rw [ht0] at e1 e2
          have HT0 := Lib.hid ht0
          clear ht0
          generalize ys[j]?.getD 0 = yj at *
          by_cases h6 : (t0 : Int) + k ≤ 6
          · go_wp2_with (first | (go_at_call 63; (with_reducible refine (l02Mod_is _ _ _ _ (by omega) (by omega) HT0.out).mono ?_); rintro e w' ⟨rfl, rfl⟩))
            (with_reducible refine (one_any 2 w0 _ g A n c xs _ hsy (by omega)).mono ?_)
            rintro e w4 ⟨b, rfl, hs5, hg5⟩
            have hzo3 := own_keep hzo hg5 (by omega)
            have hlo3 := own_keep hlo hg5 hlt
            have hgy3 := grown_trans hgy hg5
            have hz4 := hg5.size
            cases b
            · go_wp2_with (first | (at_builtin; refine appL elInt (by omega) rfl _ _ Try.underlying24 rfl rfl (own_ext hzo3 ((Ext.refl _).alloc _)) (by simp; omega) (by omega) rfl (heap_alloc_new _ _) (ys := [_]) (by rfl) (by rfl) ?_; intro v' w3 hown3 hg4))
              go_roundw
              case rel => exact ⟨j + 1, _, _, by omega, by go_num, rfl, hown3, app_bd HZB.out (by omega), own_far (own_ext hlo3 ((Ext.refl _).alloc _)) hg4 (fun b hb e => by have h1 := (World.ownsRow.lt hzo3 b hb).1; cases e; have h2 : wo.heap.size ≤ gl := h1; omega), ((hs5.after ((Ext.refl _).alloc _)).own hg4 (fun b hb => by have h1 := (World.ownsRow.lt hzo3 b hb).1; omega)).more (by omega), grown_own (grown_new hgy3 _) hg4 (fun b hb => by have h1 := (World.ownsRow.lt hzo3 b hb).1; omega), by have h1 := hg4.size; simp at h1; omega⟩
              case measure => simp [intOf]; omega
            · go_wp2_with (first | (at_builtin; refine appL elInt (by omega) rfl _ _ Try.underlying24 rfl rfl (own_ext hzo3 ((Ext.refl _).alloc _)) (by simp; omega) (by omega) rfl (heap_alloc_new _ _) (ys := [_]) (by rfl) (by rfl) ?_; intro v' w3 hown3 hg4))
              go_roundw
              case rel => exact ⟨j + 1, _, _, by omega, by go_num, rfl, hown3, app_bd HZB.out (by omega), own_far (own_ext hlo3 ((Ext.refl _).alloc _)) hg4 (fun b hb e => by have h1 := (World.ownsRow.lt hzo3 b hb).1; cases e; have h2 : wo.heap.size ≤ gl := h1; omega), ((hs5.after ((Ext.refl _).alloc _)).own hg4 (fun b hb => by have h1 := (World.ownsRow.lt hzo3 b hb).1; omega)).more (by omega), grown_own (grown_new hgy3 _) hg4 (fun b hb => by have h1 := (World.ownsRow.lt hzo3 b hb).1; omega), by have h1 := hg4.size; simp at h1; omega⟩
              case measure => simp [intOf]; omega
          · have h6w : (6 : Int) < (t0 : Int) + k := by omega
            clear h6
            have h6w2 : ¬ ((t0 : Int) + k ≤ 6) := by omega
            go_wp2_with (first | (go_at_call 63; (with_reducible refine (l02Mod_is _ _ _ _ (by omega) (by omega) HT0.out).mono ?_); rintro e w' ⟨rfl, rfl⟩) | (at_builtin; refine appL elInt (by omega) rfl _ _ Try.underlying24 rfl rfl (own_ext hzo ((Ext.refl _).alloc _)) (by simp; omega) (by omega) rfl (heap_alloc_new _ _) (ys := [_]) (by rfl) (by rfl) ?_; intro v' w3 hown3 hg4))
            go_roundw
            case rel => exact ⟨j + 1, _, _, by omega, by go_num, rfl, hown3, app_bd HZB.out (by omega), own_far (own_ext hlo ((Ext.refl _).alloc _)) hg4 (fun b hb e => by have h1 := (World.ownsRow.lt hzo b hb).1; cases e; have h2 : wo.heap.size ≤ gl := h1; omega), ((hsy.after ((Ext.refl _).alloc _)).own hg4 (fun b hb => by have h1 := (World.ownsRow.lt hzo b hb).1; omega)).more (by omega), grown_own (grown_new hgy _) hg4 (fun b hb => by have h1 := (World.ownsRow.lt hzo b hb).1; omega), by have h1 := hg4.size; simp at h1; omega⟩
            case measure => simp [intOf]; omega
        · obtain rfl : j = k := by omega
          obtain ⟨g3, c3, hv3, hg3a, hg3b⟩ := World.ownsRow.form hzo (by omega)
          subst hv3
          have HF : Hid (DrawnL w0 w g A n c xs (top + 500) 0 16 (.returned (.slice (some ⟨g3, 0, none⟩) j c3)) wr) := ⟨_, j, _, zs, rfl, ownsRow_le hzo hzr, ⟨by omega, by omega⟩, fun y hy => by have := hzb y hy; omega, hsy.more (by omega), hgy⟩
          go_wp2
          go_ret
          exact HF.out
end Go.Proofs.Ytbaabghehpcjnaa
