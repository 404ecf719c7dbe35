/- Drawn patterns: contracts of l02Draw and l02Bent. No condition but the stated bounds. -/
import Derived.Test.YtinkaglngblddaaDoorLsr
import Derived.Test.YtinkaglngblddaaDoorNum
namespace Go.Proofs.YtinkaglngblddaaDoor
set_option linter.unusedVariables false
set_option linter.unusedSimpArgs false
open Go.RowKit Go.Joins

/-- A drawn list of numbers, in memory made behind w. -/
def DrawnL (w0 w : World) (g : Nat) (A : Option Addr) (n c : Nat) (xs : List Int) (top least : Nat) (high : Int) (e : Ending) (w' : World) : Prop :=
  ∃ (B : Option Addr) (m d : Nat) (ys : List Int), e = .returned (.slice B m d) ∧ w'.ownsRow w.heap.size 2 1 (.slice B m d) m (ys.map (Value.int .i64)) ∧ (least ≤ m ∧ m ≤ 20) ∧ (∀ y ∈ ys, -20 ≤ y ∧ y ≤ high) ∧ Srd w0 w' g A n c xs top ∧ w.grownBy w' (some g)
theorem own_keep {w w' : World} {lo g : Nat} {e : TypeId} {m n : Nat} {v : Value} {cs : List Value} (h : w.ownsRow lo e m v n cs) (hg : w.grownBy w' (some g)) (hlo : g < lo) : w'.ownsRow lo e m v n cs := by
  refine ⟨h.1, ?_⟩
  rcases h.2 with h0 | ⟨b, cap, cur, ev, hb, hh, rest⟩
  · exact .inl h0
  · exact .inr ⟨b, cap, cur, ev, hb, (hg.block b (Array.getElem?_eq_some_iff.1 hh).1 (by intro e; cases e; omega)).trans hh, rest⟩
theorem own_far {w w' : World} {lo : Nat} {e : TypeId} {m n : Nat} {v : Value} {cs : List Value} {row : Option Nat} (h : w.ownsRow lo e m v n cs) (hg : w.grownBy w' row) (hlo : ∀ k, row = some k → v.ownBlock ≠ some k) : w'.ownsRow lo e m v n cs := by
  refine ⟨h.1, ?_⟩
  rcases h.2 with h0 | ⟨b, cap, cur, ev, hb, hh, rest⟩
  · exact .inl h0
  · exact .inr ⟨b, cap, cur, ev, hb, (hg.block b (Array.getElem?_eq_some_iff.1 hh).1 (by intro e; exact hlo b e.symm (by rw [ev]; rfl))).trans hh, rest⟩
theorem own_ext {w w' : World} {lo : Nat} {e : TypeId} {m n : Nat} {v : Value} {cs : List Value} (h : w.ownsRow lo e m v n cs) (k : Ext w w') : w'.ownsRow lo e m v n cs := by
  refine ⟨h.1, ?_⟩
  rcases h.2 with h0 | ⟨b, cap, cur, ev, hb, hh, rest⟩
  · exact .inl h0
  · exact .inr ⟨b, cap, cur, ev, hb, (Below.block k b (Array.getElem?_eq_some_iff.1 hh).1).trans hh, rest⟩
theorem grown_own {a w w' : World} {g : Nat} {row : Option Nat} (h : a.grownBy w (some g)) (k : w.grownBy w' row) (hr : ∀ b, row = some b → a.heap.size ≤ b) : a.grownBy w' (some g) :=
  ⟨k.os.trans h.os, k.tape.trans h.tape, k.output.trans h.output, Nat.le_trans h.size k.size, fun i hi hne => (k.block i (Nat.lt_of_lt_of_le hi h.size) (by intro e; have := hr i e.symm; omega)).trans (h.block i hi hne)⟩
theorem grown_exts {a w w' : World} {row : Option Nat} (h : a.grownBy w row) (k : Ext w w') : a.grownBy w' row :=
  ⟨k.os.trans h.os, k.tape.trans h.tape, k.output.trans h.output, Nat.le_trans h.size k.size, fun i hi hne => (Below.block k i (Nat.lt_of_lt_of_le hi h.size)).trans (h.block i hi hne)⟩
theorem Srd.own {w0 w w' : World} {g n c top : Nat} {A : Option Addr} {xs : List Int} (h : Srd w0 w g A n c xs top) {row : Option Nat} (k : w.grownBy w' row) (hr : ∀ b, row = some b → g < b) : Srd w0 w' g A n c xs top :=
  h.apart k (by intro e; have := hr g e; omega) (h.ext.grown k (fun b hb => by have := hr b hb; have := h.born; omega))
theorem Srd.put {w0 w : World} {g n c top : Nat} {A : Option Addr} {xs : List Int} (h : Srd w0 w g A n c xs top) {p : Addr} (hp : g < p.block) (u : Value) : Srd w0 (w.setCell p u) g A n c xs top := by
  obtain ⟨q, z, h1, h2, h3, hb⟩ := h.at_
  exact ⟨h.byts, h.born, h.ext.set (by have := h.born; omega) u, q, z, h1, h2, h3, (Below.heap_setCell w p u g (fun e => by omega)).trans hb⟩
theorem grown_put {a w : World} {row : Option Nat} (h : a.grownBy w row) {p : Addr} (hp : a.heap.size ≤ p.block) (u : Value) : a.grownBy (w.setCell p u) row :=
  ⟨h.os, h.tape, h.output, by simpa [World.setCell] using h.size, fun i hi hne => (Below.heap_setCell w p u i (by omega)).trans (h.block i hi hne)⟩
theorem grown_new {a w : World} {row : Option Nat} (h : a.grownBy w row) (o : Obj) : a.grownBy (w.alloc o) row := grown_exts h ((Ext.refl _).alloc _)
theorem own_cell {w : World} {lo g n c : Nat} {ys : List Int} (h : w.ownsRow lo 2 1 (.slice (some ⟨g, 0, none⟩) n c) n (ys.map (Value.int .i64))) {p : Nat} (hp : p < n) : w.cell? ⟨g, p, none⟩ = some (.int .i64 (ys[p]?.getD 0)) ∧ w.frozen? ⟨g, p, none⟩ = false := by
  have hl : ys.length = n := by have := h.1; simpa using this
  refine ⟨?_, World.ownsRow.frozenAt h p⟩
  rw [World.ownsRow.cellAt h p (by omega), List.getElem?_map, List.getElem?_eq_getElem (show p < ys.length by omega)]
  rfl
theorem own_store {w : World} {lo g n c : Nat} {ys : List Int} (h : w.ownsRow lo 2 1 (.slice (some ⟨g, 0, none⟩) n c) n (ys.map (Value.int .i64))) (p : Nat) (v : Int) : (w.setCell ⟨g, p, none⟩ (.int .i64 v)).ownsRow lo 2 1 (.slice (some ⟨g, 0, none⟩) n c) n ((ys.set p v).map (Value.int .i64)) := by
  rw [List.map_set]
  exact (World.ownsRow.stored h p (.int .i64 v)).1
theorem getDbd {ys : List Int} {lo hi : Int} (h : ∀ y ∈ ys, lo ≤ y ∧ y ≤ hi) {i : Nat} (hi' : i < ys.length) : lo ≤ ys[i]?.getD 0 ∧ ys[i]?.getD 0 ≤ hi := by
  rw [List.getElem?_eq_getElem hi']
  exact h _ (List.getElem_mem _)
theorem set_bd {ys : List Int} {lo hi v : Int} (h : ∀ y ∈ ys, lo ≤ y ∧ y ≤ hi) (hv : lo ≤ v ∧ v ≤ hi) (i : Nat) : ∀ y ∈ ys.set i v, lo ≤ y ∧ y ≤ hi := fun y hy => by
  rcases List.mem_or_eq_of_mem_set hy with h1 | h1
  · exact h y h1
  · rw [h1]; exact hv
theorem app_bd {ys : List Int} {lo hi v : Int} (h : ∀ y ∈ ys, lo ≤ y ∧ y ≤ hi) (hv : lo ≤ v ∧ v ≤ hi) : ∀ y ∈ ys ++ [v], lo ≤ y ∧ y ≤ hi := fun y hy => by
  rw [List.mem_append] at hy
  rcases hy with h1 | h1
  · exact h y h1
  · simp at h1; rw [h1]; exact hv
theorem own_new (w : World) {lo : Nat} (h : lo ≤ w.heap.size) : (w.alloc (.cells #[] 2)).ownsRow lo 2 1 (.slice (some ⟨w.heap.size, 0, none⟩) 0 0) 0 (([] : List Int).map (Value.int .i64)) :=
  ⟨by simp, .inr ⟨w.heap.size, 0, #[], rfl, h, heap_alloc_new _ _, Nat.le_refl _, by simp [maxLen], by simp, by simp⟩⟩
set_option maxHeartbeats 4000000 in
set_option maxRecDepth 100000 in
theorem l02Draw_any (q : Nat) (w0 w : World) (g : Nat) (A : Option Addr) (n c : Nat) (xs : List Int) (top : Nat) (h : Srd w0 w g A n c xs top) (ht : top ≤ 900000000) (hq : 1 ≤ q ∧ q ≤ 7) :
    Calls Tryd.prog 86 #[.pointer (some ⟨g, 0, none⟩), .int .i64 q] w (DrawnL w0 w g A n c xs (top + 400) 1 9) := by
  have hlt := h.lt
  go_enter Tryd.func86, Tryd.ntmps86
  go_wp2_with fail
  (with_reducible refine (pick_any q w0 _ g A n c xs top h (by omega)).mono ?_)
  rintro e w1 ⟨x, rfl, hx, hs1, hg1⟩
  obtain ⟨r, hr⟩ : ∃ r : Nat, 1 + x = r := ⟨(1 + x).toNat, by omega⟩
  have hr7 : 1 ≤ r ∧ r ≤ 7 := by omega
  have hz1 := hg1.size
  have hg2 := grown_new hg1 (.cells #[] 2)
  have hs2 := hs1.after (show Ext w1 (w1.alloc (.cells #[] 2)) from (by with_reducible (repeat (first | exact Ext.refl _ | apply Ext.drewN | apply Ext.drew | apply Ext.alloc | (refine Ext.set ?_ (by first | (simp; done) | (simp; omega) | omega) _) | (refine Ext.trans ?_ (by assumption))))))
  go_wp2
  go_loopw [6, 7, 8] (fun v i _ wr => ∃ (k : Nat) (ys : List Int), k ≤ r ∧ i = .int .i64 k ∧ wr.ownsRow w.heap.size 2 1 v k (ys.map (Value.int .i64)) ∧ (∀ y ∈ ys, 0 ≤ y ∧ y ≤ 6) ∧ Srd w0 wr g A n c xs (top + 2 + 2 * k) ∧ w.grownBy wr (some g)) (fun _ i _ _ => r - (intOf i).toNat)
  case atStart => exact ⟨0, [], by omega, rfl, own_new w1 hz1, by simp, hs2, hg2⟩
  case round =>
    obtain ⟨k, ys, hk, rfl, hown, hbd, hsr, hgr⟩ := hrel
    by_cases hkr : k < r
    · have hki : (k : Int) < r := by omega
      have hzr := hgr.size
      have HB := Lib.hid hbd
      clear hbd
      go_wp2_with fail
      (with_reducible refine (pick_any (k + 1) w0 _ g A n c xs _ hsr (by omega)).mono ?_)
      rintro e w2 ⟨x2, rfl, hx2, hs3, hg3⟩
      obtain ⟨a, rfl⟩ : ∃ a : Nat, x2 = a := ⟨x2.toNat, by omega⟩
      have hgr2 := grown_trans hgr hg3
      have hown2 := own_keep hown hg3 hlt
      have hz2 := hgr2.size
      have hak : a = k ∨ (a < k ∧ (a : Int) < k) := by omega
      have hyl : ys.length = k := by have := hown.1; simpa using this
      have HZ : Hid (∀ y ∈ ((ys ++ [(k : Int)]).set k ((ys ++ [(k : Int)])[a]?.getD 0)).set a (k : Int), 0 ≤ y ∧ y ≤ 6) := by
        have h1 := app_bd (v := (k : Int)) HB.out (by omega)
        exact set_bd (set_bd h1 (getDbd h1 (by simp; omega)) k) (by omega) a
      clear hyl
      have hs4 := hs3.after (show Ext w2 (w2.alloc (.cells #[.int .i64 k] 2)) from (by with_reducible (repeat (first | exact Ext.refl _ | apply Ext.drewN | apply Ext.drew | apply Ext.alloc | (refine Ext.set ?_ (by first | (simp; done) | (simp; omega) | omega) _) | (refine Ext.trans ?_ (by assumption))))))
      have hgr3 := grown_new hgr2 (.cells #[.int .i64 k] 2)
      rcases hak with rfl | ⟨hak, haki⟩
      · go_wp2_with (first | (at_builtin; refine appL elInt (by omega) rfl _ _ Tryd.underlying50 rfl rfl (own_ext hown2 ((Ext.refl _).alloc _)) (by simp; omega) (by omega) rfl (heap_alloc_new _ _) (ys := [_]) (by rfl) (by rfl) ?_; intro v' w3 hown3 hg4; obtain ⟨g1, c1, hv1, hg1a, hg1b⟩ := World.ownsRow.form hown3 (by omega); subst hv1; obtain ⟨hcA, hfA⟩ := own_cell hown3 (p := a) (by omega)))
        go_roundw
        case rel => exact ⟨a + 1, _, by omega, by go_num, own_store (own_store hown3 _ _) _ _, HZ.out, ((hs4.own hg4 (fun b hb => Nat.lt_of_lt_of_le hlt (World.ownsRow.lt hown2 b hb).1)).put (by show g < g1; omega) _).put (by show g < g1; omega) _, grown_put (grown_put (grown_own hgr3 hg4 (fun b hb => (World.ownsRow.lt hown2 b hb).1)) (by show w.heap.size ≤ g1; omega) _) (by show w.heap.size ≤ g1; omega) _⟩
        case measure => simp [intOf]; omega
      · go_wp2_with (first | (at_builtin; refine appL elInt (by omega) rfl _ _ Tryd.underlying50 rfl rfl (own_ext hown2 ((Ext.refl _).alloc _)) (by simp; omega) (by omega) rfl (heap_alloc_new _ _) (ys := [_]) (by rfl) (by rfl) ?_; intro v' w3 hown3 hg4; obtain ⟨g1, c1, hv1, hg1a, hg1b⟩ := World.ownsRow.form hown3 (by omega); subst hv1; obtain ⟨hcA, hfA⟩ := own_cell hown3 (p := a) (by omega); obtain ⟨hcK, hfK⟩ := own_cell hown3 (p := k) (by omega)))
        go_roundw
        case rel => exact ⟨k + 1, _, by omega, by go_num, own_store (own_store hown3 _ _) _ _, HZ.out, ((hs4.own hg4 (fun b hb => Nat.lt_of_lt_of_le hlt (World.ownsRow.lt hown2 b hb).1)).put (by show g < g1; omega) _).put (by show g < g1; omega) _, grown_put (grown_put (grown_own hgr3 hg4 (fun b hb => (World.ownsRow.lt hown2 b hb).1)) (by show w.heap.size ≤ g1; omega) _) (by show w.heap.size ≤ g1; omega) _⟩
        case measure => simp [intOf]; omega
    · obtain rfl : k = r := by omega
      have hyl : ys.length = k := by have := hown.1; simpa using this
      obtain ⟨gl, cl, hvl, hgl1, hgl2⟩ := World.ownsRow.form hown (by omega)
      subst hvl
      have HB := Lib.hid hbd
      clear hbd
      obtain ⟨wo, rfl⟩ : ∃ wo : World, wo = wr := ⟨_, rfl⟩
      have hs2' := hsr.after (show Ext wo (wo.alloc (.cells #[] 2)) from (by with_reducible (repeat (first | exact Ext.refl _ | apply Ext.drewN | apply Ext.drew | apply Ext.alloc | (refine Ext.set ?_ (by first | (simp; done) | (simp; omega) | omega) _) | (refine Ext.trans ?_ (by assumption))))))
      have hgr2' := grown_new hgr (.cells #[] 2)
      have hown1 := own_ext hown (show Ext wo (wo.alloc (.cells #[] 2)) from (by with_reducible (repeat (first | exact Ext.refl _ | apply Ext.drewN | apply Ext.drew | apply Ext.alloc | (refine Ext.set ?_ (by first | (simp; done) | (simp; omega) | omega) _) | (refine Ext.trans ?_ (by assumption))))))
      have hzr := hgr.size
      go_wp2
      go_loopw [9, 10, 11] (fun v i _ wy => ∃ (j : Nat) (zs : List Int) (vv : Value), j ≤ k ∧ i = .int .i64 j ∧ vv = v ∧ wy.ownsRow wo.heap.size 2 1 vv j (zs.map (Value.int .i64)) ∧ (∀ y ∈ zs, 0 ≤ y ∧ y ≤ 9) ∧ wy.ownsRow w.heap.size 2 1 (.slice (some ⟨gl, 0, none⟩) k cl) k (ys.map (Value.int .i64)) ∧ Srd w0 wy g A n c xs (top + 20 + 30 * j) ∧ w.grownBy wy (some g) ∧ wo.heap.size ≤ wy.heap.size) (fun _ i _ _ => k - (intOf i).toNat)
      case atStart => exact ⟨0, [], _, by omega, rfl, rfl, own_new wo (Nat.le_refl _), by simp, hown1, hs2'.more (by omega), hgr2', by simp⟩
      case round =>
        obtain ⟨j, zs, vv, hj, rfl, rfl, hzo, hzb, hlo, hsy, hgy, hzy⟩ := hrel
        by_cases hjk : j < k
        · have hji : (j : Int) < k := by omega
          have HZB := Lib.hid hzb
          clear hzb
          obtain ⟨hcj, _⟩ := own_cell hlo (p := j) hjk
          have hyb := getDbd HB.out (i := j) (by omega)
          have e1 := Int.emod_nonneg (ys[j]?.getD 0 - j) (show (k : Int) ≠ 0 by omega)
          have e2 := Int.emod_lt_of_pos (ys[j]?.getD 0 - j) (show 0 < (k : Int) by omega)
          obtain ⟨t0, ht0⟩ : ∃ t0 : Nat, (ys[j]?.getD 0 - j) % (k : Int) = t0 := ⟨_, (Int.toNat_of_nonneg e1).symm⟩
          rw [ht0] at e1 e2
          have HT0 := Lib.hid ht0
          clear ht0
          generalize ys[j]?.getD 0 = yj at *
          go_wp2_with (first | (go_at_call 97; (with_reducible refine (l02Mod_is _ _ _ _ (by omega) (by omega) HT0.out).mono ?_); rintro e w' ⟨rfl, rfl⟩))
          go_loopw [11] (fun t wt => ∃ tt : Nat, tt ≤ 9 ∧ t = .int .i64 tt ∧ wt.ownsRow wo.heap.size 2 1 vv j (zs.map (Value.int .i64)) ∧ wt.ownsRow w.heap.size 2 1 (.slice (some ⟨gl, 0, none⟩) k cl) k (ys.map (Value.int .i64)) ∧ Srd w0 wt g A n c xs (top + 20 + 30 * j + 2 * tt) ∧ w.grownBy wt (some g) ∧ wo.heap.size ≤ wt.heap.size) (fun t _ => 20 - (intOf t).toNat)
          case atStart => exact ⟨t0, by omega, rfl, hzo, hlo, hsy.more (by omega), hgy, hzy⟩
          case round =>
            obtain ⟨tt, htt, rfl, hzo2, hlo2, hst, hgt, hzt⟩ := hrel
            by_cases h9 : (tt : Int) + k ≤ 9
            · go_wp2_with fail
              (with_reducible refine (one_any 2 w0 _ g A n c xs _ hst (by omega)).mono ?_)
              rintro e w4 ⟨b, rfl, hs5, hg5⟩
              have hzo3 := own_keep hzo2 hg5 (by omega)
              have hlo3 := own_keep hlo2 hg5 hlt
              have hgy3 := grown_trans hgt hg5
              have hz4 := hg5.size
              cases b
              · go_wp2_with (first | (at_builtin; refine appL elInt (by omega) rfl _ _ Tryd.underlying50 rfl rfl (own_ext hzo3 ((Ext.refl _).alloc _)) (by simp; omega) (by omega) rfl (heap_alloc_new _ _) (ys := [_]) (by rfl) (by rfl) ?_; intro v' w3 hown3 hg4))
                go_roundw
                case rel => exact ⟨j + 1, _, _, by omega, by go_num, rfl, hown3, app_bd HZB.out (by omega), own_far (own_ext hlo3 ((Ext.refl _).alloc _)) hg4 (fun b hb e => by have h1 := (World.ownsRow.lt hzo3 b hb).1; cases e; have h2 : wo.heap.size ≤ gl := h1; omega), ((hs5.after ((Ext.refl _).alloc _)).own hg4 (fun b hb => by have h1 := (World.ownsRow.lt hzo3 b hb).1; omega)).more (by omega), grown_own (grown_new hgy3 _) hg4 (fun b hb => by have h1 := (World.ownsRow.lt hzo3 b hb).1; omega), by have h1 := hg4.size; simp at h1; omega⟩
                case measure => simp [intOf]; omega
              · go_wp2
                go_roundw
                case rel => exact ⟨tt + k, by omega, by go_num, hzo3, hlo3, hs5.more (by omega), hgy3, by omega⟩
                case measure => simp [intOf]; omega
            · go_wp2_with (first | (at_builtin; refine appL elInt (by omega) rfl _ _ Tryd.underlying50 rfl rfl (own_ext hzo2 ((Ext.refl _).alloc _)) (by simp; omega) (by omega) rfl (heap_alloc_new _ _) (ys := [_]) (by rfl) (by rfl) ?_; intro v' w3 hown3 hg4))
              go_roundw
              case rel => exact ⟨j + 1, _, _, by omega, by go_num, rfl, hown3, app_bd HZB.out (by omega), own_far (own_ext hlo2 ((Ext.refl _).alloc _)) hg4 (fun b hb e => by have h1 := (World.ownsRow.lt hzo2 b hb).1; cases e; have h2 : wo.heap.size ≤ gl := h1; omega), ((hst.after ((Ext.refl _).alloc _)).own hg4 (fun b hb => by have h1 := (World.ownsRow.lt hzo2 b hb).1; omega)).more (by omega), grown_own (grown_new hgt _) hg4 (fun b hb => by have h1 := (World.ownsRow.lt hzo2 b hb).1; omega), by have h1 := hg4.size; simp at h1; omega⟩
              case measure => simp [intOf]; omega
        · obtain rfl : j = k := by omega
          obtain ⟨g3, c3, hv3, hg3a, hg3b⟩ := World.ownsRow.form hzo (by omega)
          subst hv3
          have HF : Hid (DrawnL w0 w g A n c xs (top + 400) 1 9 (.returned (.slice (some ⟨g3, 0, none⟩) j c3)) wr) := ⟨_, j, _, zs, rfl, ownsRow_le hzo hzr, ⟨by omega, by omega⟩, fun y hy => by have := hzb y hy; omega, hsy.more (by omega), hgy⟩
          go_wp2
          go_ret
          exact HF.out
theorem l02Draw_is (q : Nat) (p : Int) (w0 w : World) (g : Nat) (A : Option Addr) (n c : Nat) (xs : List Int) (top : Nat) (h : Srd w0 w g A n c xs top) (hp : p = q) (ht : top ≤ 900000000) (hq : 1 ≤ q ∧ q ≤ 7) :
    Calls Tryd.prog 86 #[.pointer (some ⟨g, 0, none⟩), .int .i64 p] w (DrawnL w0 w g A n c xs (top + 400) 1 9) := by
  subst hp
  exact l02Draw_any q w0 w g A n c xs top h ht hq
theorem DrawnL.of_row {w0 w w' : World} {g : Nat} {A : Option Addr} {n c : Nat} {xs : List Int} {top least : Nat} {high : Int} {B : Option Addr} {m d : Nat} {ys : List Int} (h : w'.ownsRow w.heap.size 2 1 (.slice B m d) m (ys.map (Value.int .i64))) (hm : least ≤ m ∧ m ≤ 20) (hb : ∀ y ∈ ys, -20 ≤ y ∧ y ≤ high) (hs : Srd w0 w' g A n c xs top) (hg : w.grownBy w' (some g)) : DrawnL w0 w g A n c xs top least high (.returned (.slice B m d)) w' := ⟨B, m, d, ys, rfl, h, hm, hb, hs, hg⟩
set_option maxHeartbeats 4000000 in
set_option maxRecDepth 100000 in
theorem l02Bent_any (w0 w : World) (g : Nat) (A : Option Addr) (n c : Nat) (xs : List Int) (top : Nat) (h : Srd w0 w g A n c xs top) (ht : top ≤ 800000000) :
    Calls Tryd.prog 69 #[.pointer (some ⟨g, 0, none⟩)] w (DrawnL w0 w g A n c xs (top + 410) 0 16) := by
  have hlt := h.lt
  go_enter Tryd.func69, Tryd.ntmps69
  go_wp2_with fail
  (with_reducible refine (l02Draw_is 7 7 w0 _ g A n c xs top h rfl (by omega) (by omega)).mono ?_)
  rintro e w1 ⟨B, m, d, ys, rfl, hown, hm, hbd, hs1, hg1⟩
  obtain ⟨gl, cl, hvl, hgl1, hgl2⟩ := World.ownsRow.form hown (by omega)
  cases hvl
  have hz1 := hg1.size
  have HB := Lib.hid hbd
  clear hbd
  go_wp2_with fail
  (with_reducible refine (pick_any m w0 _ g A n c xs _ hs1 (by omega)).mono ?_)
  rintro e w2 ⟨x, rfl, hx, hs2, hg2⟩
  obtain ⟨a, rfl⟩ : ∃ a : Nat, x = a := ⟨x.toNat, by omega⟩
  have ham : a < m := by omega
  have hami : (a : Int) < m := by omega
  have hown2 := own_keep hown hg2 hlt
  have hG2 := grown_trans hg1 hg2
  have hz2 := hg2.size
  go_wp2_with fail
  (with_reducible refine (pick_any 14 w0 _ g A n c xs _ hs2 (by omega)).mono ?_)
  rintro e w3 ⟨x3, rfl, hx3, hs3, hg3⟩
  have hown3 := own_keep hown2 hg3 hlt
  have hG3 := grown_trans hG2 hg3
  have hz3 := hg3.size
  obtain ⟨hcA, hfA⟩ := own_cell hown3 (p := a) ham
  have HYL : Hid (ys.length = m) := by show _ = _; have := hown.1; simpa using this
  have hya : Hid (-20 ≤ ys[a]?.getD 0 ∧ ys[a]?.getD 0 ≤ 9) := getDbd HB.out (by rw [HYL.out]; exact ham)
  have hyb := hya.out
  have hx3c : x3 = 0 ∨ x3 = 1 ∨ x3 = 2 ∨ x3 = 3 ∨ 4 ≤ x3 := by omega
  generalize hya2 : ys[a]?.getD 0 = ya at *
  clear hya2
  rcases hx3c with rfl | rfl | rfl | rfl | hx4
  · have hI : Ints (w3.alloc (.cells #[.int .i64 (-1), .int .i64 15, .int .i64 16, .int .i64 (ya + 1)] 2)) (some ⟨w3.heap.size, 0, none⟩) 4 [-1, 15, 16, ya + 1] := ⟨rfl, by omega, by intro x hx; simp at hx; omega, fun _ => ⟨w3.heap.size, 0, rfl, by simp, fun i hi => by
      obtain rfl | rfl | rfl | rfl : i = 0 ∨ i = 1 ∨ i = 2 ∨ i = 3 := by omega
      · exact (cell_of_block (heap_alloc_new w3 _) 0).trans rfl
      · exact (cell_of_block (heap_alloc_new w3 _) 1).trans rfl
      · exact (cell_of_block (heap_alloc_new w3 _) 2).trans rfl
      · exact (cell_of_block (heap_alloc_new w3 _) 3).trans rfl⟩⟩
    have hlt3 := hs3.lt
    go_wp2_with fail
    (with_reducible refine (among_any _ 4 _ [-1, 15, 16, ya + 1] w0 _ g A n c xs _ (hs3.after (by with_reducible (repeat (first | exact Ext.refl _ | apply Ext.drewN | apply Ext.drew | apply Ext.alloc | (refine Ext.set ?_ (by first | (simp; done) | (simp; omega) | omega) _) | (refine Ext.trans ?_ (by assumption)))))) (by omega) hI (by omega) (by rintro a e; cases e; show w3.heap.size ≠ g; omega)).mono ?_)
    rintro e w4 ⟨y, rfl, hy, hs4, hg4⟩
    have hyb2 : -20 ≤ y ∧ y ≤ 16 := by simp at hy; omega
    have hown4 := own_keep (own_ext hown3 (show Ext w3 (w3.alloc (.cells #[.int .i64 (-1), .int .i64 15, .int .i64 16, .int .i64 (ya + 1)] 2)) from (by with_reducible (repeat (first | exact Ext.refl _ | apply Ext.drewN | apply Ext.drew | apply Ext.alloc | (refine Ext.set ?_ (by first | (simp; done) | (simp; omega) | omega) _) | (refine Ext.trans ?_ (by assumption))))))) hg4 hlt
    have hG4 := grown_trans (grown_new hG3 _) hg4
    obtain ⟨hc4, hf4⟩ := own_cell hown4 (p := a) ham
    have HF : Hid (DrawnL w0 w g A n c xs (top + 410) 0 16 (.returned (.slice (some ⟨gl, 0, none⟩) m d)) (w4.setCell ⟨gl, a, none⟩ (.int .i64 y))) := DrawnL.of_row (own_store hown4 a y) (by omega) (set_bd (fun z hz => by have := HB.out z hz; omega) hyb2 a) ((hs4.put (by show g < gl; omega) _).more (by omega)) (grown_put hG4 (by show w.heap.size ≤ gl; omega) _)
    go_wp2
    go_ret
    exact HF.out
  · go_wp2_with fail
    (with_reducible refine (pick_any 10 w0 _ g A n c xs _ hs3 (by omega)).mono ?_)
    rintro e w4 ⟨y, rfl, hy, hs4, hg4⟩
    have hown4 := own_keep hown3 hg4 hlt
    have hG4 := grown_trans hG3 hg4
    obtain ⟨hc4, hf4⟩ := own_cell hown4 (p := a) ham
    have HF : Hid (DrawnL w0 w g A n c xs (top + 410) 0 16 (.returned (.slice (some ⟨gl, 0, none⟩) m d)) (w4.setCell ⟨gl, a, none⟩ (.int .i64 y))) := DrawnL.of_row (own_store hown4 a y) (by omega) (set_bd (fun z hz => by have := HB.out z hz; omega) (by omega) a) ((hs4.put (by show g < gl; omega) _).more (by omega)) (grown_put hG4 (by show w.heap.size ≤ gl; omega) _)
    go_wp2
    go_ret
    exact HF.out
  · have HF : Hid (DrawnL w0 w g A n c xs (top + 410) 0 16 (.returned (.slice (some ⟨w3.heap.size, 0, none⟩) 0 0)) (w3.alloc (.cells #[] 2))) := DrawnL.of_row (own_new w3 (by omega)) (by omega) (by simp) ((hs3.after (by with_reducible (repeat (first | exact Ext.refl _ | apply Ext.drewN | apply Ext.drew | apply Ext.alloc | (refine Ext.set ?_ (by first | (simp; done) | (simp; omega) | omega) _) | (refine Ext.trans ?_ (by assumption)))))).more (by omega)) (grown_new hG3 _)
    go_wp2
    go_ret
    exact HF.out
  · have hs3' := hs3.after (show Ext w3 (w3.alloc (.cells #[] 2)) from (by with_reducible (repeat (first | exact Ext.refl _ | apply Ext.drewN | apply Ext.drew | apply Ext.alloc | (refine Ext.set ?_ (by first | (simp; done) | (simp; omega) | omega) _) | (refine Ext.trans ?_ (by assumption))))))
    have hG3' := grown_new hG3 (.cells #[] 2)
    have hO := own_new w3 (lo := w.heap.size) (by omega)
    go_wp2_with fail
    (with_reducible refine (pick_any 2 w0 _ g A n c xs _ hs3' (by omega)).mono ?_)
    rintro e w4 ⟨y, rfl, hy, hs4, hg4⟩
    obtain ⟨r, hr⟩ : ∃ r : Nat, 12 + y = r := ⟨(12 + y).toNat, by omega⟩
    have hr13 : r ≤ 13 := by omega
    have hO4 := own_keep hO hg4 hlt
    have hG4 := grown_trans hG3' hg4
    go_wp2
    go_loopw [3] (fun v wr => ∃ (k : Nat) (zs : List Int), k ≤ r ∧ wr.ownsRow w.heap.size 2 1 v k (zs.map (Value.int .i64)) ∧ (∀ y ∈ zs, -20 ≤ y ∧ y ≤ 16) ∧ Srd w0 wr g A n c xs (top + 408) ∧ w.grownBy wr (some g) ∧ (∃ B d, v = .slice B k d)) (fun v _ => r - (match v with | .slice _ k _ => k | _ => 0))
    case atStart => exact ⟨0, [], by omega, hO4, by simp, hs4.more (by omega), hG4, _, _, rfl⟩
    case round =>
      obtain ⟨k, zs, hk, hzo, hzb, hsr, hgr, B, d, rfl⟩ := hrel
      have hzr := hgr.size
      by_cases hkr : k < r
      · have hki : (k : Int) < r := by omega
        go_wp2_with (first | (at_builtin; refine appL elInt (by omega) rfl _ _ Tryd.underlying50 rfl rfl (own_ext hzo ((Ext.refl _).alloc _)) (by simp; omega) (by omega) rfl (heap_alloc_new _ _) (ys := [_]) (by rfl) (by rfl) ?_; intro v' w5 hown5 hg5; obtain ⟨g5, c5, hv5, hg5a, hg5b⟩ := World.ownsRow.form hown5 (by omega); subst hv5))
        go_roundw
        case rel => exact ⟨k + 1, _, by omega, hown5, app_bd hzb (by omega), (hsr.after ((Ext.refl _).alloc _)).own hg5 (fun b hb => Nat.lt_of_lt_of_le hlt (World.ownsRow.lt hzo b hb).1), grown_own (grown_new hgr _) hg5 (fun b hb => (World.ownsRow.lt hzo b hb).1), _, _, rfl⟩
        case measure => simp; omega
      · have HF : Hid (DrawnL w0 w g A n c xs (top + 410) 0 16 (.returned (.slice B k d)) wr) := DrawnL.of_row hzo (by omega) hzb (hsr.more (by omega)) hgr
        have hki : ¬ (k : Int) < r := by omega
        go_wp2
        go_ret
        exact HF.out
  · have HF : Hid (DrawnL w0 w g A n c xs (top + 410) 0 16 (.returned (.slice (some ⟨gl, 0, none⟩) m d)) w3) := DrawnL.of_row hown3 (by omega) (fun z hz => by have := HB.out z hz; omega) (hs3.more (by omega)) hG3
    have h0 : (x3 == 0) = false := by simp; omega
    have h1 : (x3 == 1) = false := by simp; omega
    have h2 : (x3 == 2) = false := by simp; omega
    have h3 : (x3 == 3) = false := by simp; omega
    go_wp2
    go_ret
    exact HF.out
end Go.Proofs.YtinkaglngblddaaDoor
