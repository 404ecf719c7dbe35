/- Drawn patterns that are valid: plain laws of drawn orders, contract of l02Draw. No condition but the stated bounds. -/
import Derived.Test.YtinkaglngblddaaDoorCla
import Derived.Test.YtinkaglngblddaaDoorDrw
namespace Go.Proofs.YtinkaglngblddaaDoor
set_option linter.unusedVariables false
set_option linter.unusedSimpArgs false
open Go.Joins Go.RowKit


/-- The numbers below k, each once. -/
def Ord (ys : List Int) (k : Nat) : Prop := ys.length = k ∧ (∀ i, i < k → 0 ≤ ys[i]?.getD 0 ∧ ys[i]?.getD 0 < k) ∧ ∀ i j, i < j → j < k → ys[i]?.getD 0 ≠ ys[j]?.getD 0
theorem Ord.zero : Ord [] 0 := ⟨rfl, fun i h => absurd h (by omega), fun i j _ h => absurd h (by omega)⟩
theorem Ord.step {ys : List Int} {k a : Nat} (h : Ord ys k) (ha : a ≤ k) : Ord (((ys ++ [(k : Int)]).set k ((ys ++ [(k : Int)])[a]?.getD 0)).set a (k : Int)) (k + 1) := by
  obtain ⟨hl, hb, hd⟩ := h
  have low : ∀ i, i < k → (ys ++ [(k : Int)])[i]?.getD 0 = ys[i]?.getD 0 := fun i hi => by rw [List.getElem?_append_left (by omega)]
  have top : (ys ++ [(k : Int)])[k]?.getD 0 = k := by rw [List.getElem?_append_right (by omega), hl]; simp
  have e : ∀ i, i < k + 1 → ((((ys ++ [(k : Int)]).set k ((ys ++ [(k : Int)])[a]?.getD 0)).set a (k : Int))[i]?.getD 0) = if i = a then (k : Int) else if i = k then ys[a]?.getD 0 else ys[i]?.getD 0 := fun i hi => by
    by_cases h1 : i = a
    · subst h1
      rw [if_pos rfl, List.getElem?_set_self (by simp; omega)]
      rfl
    · rw [if_neg h1, List.getElem?_set_ne (fun h => h1 h.symm)]
      by_cases h2 : i = k
      · subst h2
        rw [if_pos rfl, List.getElem?_set_self (by simp; omega)]
        simp only [Option.getD_some]
        exact low a (by omega)
      · rw [if_neg h2, List.getElem?_set_ne (fun h => h2 h.symm)]
        exact low i (by omega)
  refine ⟨by simp [hl], fun i hi => ?_, fun i j hij hj => ?_⟩
  · rw [e i hi]
    by_cases h1 : i = a
    · rw [if_pos h1]; omega
    · rw [if_neg h1]
      by_cases h2 : i = k
      · rw [if_pos h2]; have := hb a (by omega); omega
      · rw [if_neg h2]; have := hb i (by omega); omega
  · rw [e i (by omega), e j hj]
    have bi : i < k → ys[i]?.getD 0 < k := fun h => (hb i h).2
    have bj : j < k → ys[j]?.getD 0 < k := fun h => (hb j h).2
    have ba : a < k → ys[a]?.getD 0 < k := fun h => (hb a h).2
    by_cases h1 : i = a
    · rw [if_pos h1, if_neg (by omega)]
      by_cases h2 : j = k
      · rw [if_pos h2]; have := ba (by omega); omega
      · rw [if_neg h2]; have := bj (by omega); omega
    · rw [if_neg h1, if_neg (by omega)]
      by_cases h3 : j = a
      · rw [if_pos h3]; have := bi (by omega); omega
      · rw [if_neg h3]
        by_cases h2 : j = k
        · rw [if_pos h2]
          rcases Nat.lt_or_ge i a with h4 | h4
          · exact hd i a h4 (by omega)
          · exact fun h5 => hd a i (by omega) (by omega) h5.symm
        · rw [if_neg h2]
          exact hd i j hij (by omega)
/-- The first j throws lead to the landings. -/
def Thru (ys zs : List Int) (k j : Nat) : Prop := zs.length = j ∧ ∀ i, i < j → (0 ≤ zs[i]?.getD 0 ∧ zs[i]?.getD 0 ≤ 9) ∧ ((i : Int) + zs[i]?.getD 0) % (k : Int) = ys[i]?.getD 0
theorem Thru.zero (ys : List Int) (k : Nat) : Thru ys [] k 0 := ⟨rfl, fun i h => absurd h (by omega)⟩
theorem Thru.step {ys zs : List Int} {k j : Nat} {t : Int} (h : Thru ys zs k j) (ht : 0 ≤ t ∧ t ≤ 9) (e : ((j : Int) + t) % (k : Int) = ys[j]?.getD 0) : Thru ys (zs ++ [t]) k (j + 1) := by
  obtain ⟨hl, hb⟩ := h
  refine ⟨by simp [hl], fun i hi => ?_⟩
  by_cases h1 : i < j
  · rw [List.getElem?_append_left (by omega)]
    exact hb i h1
  · obtain rfl : i = j := by omega
    rw [List.getElem?_append_right (by omega), hl, Nat.sub_self]
    exact ⟨ht, e⟩
theorem mod_land {y j k : Int} (hk : 0 < k) (hy : 0 ≤ y ∧ y < k) : (j + (y - j) % k) % k = y := by
  have h := Int.add_emod j (y - j) k
  have h2 := Int.add_emod j ((y - j) % k) k
  rw [Int.emod_emod] at h2
  rw [h2, ← h, show j + (y - j) = y by omega]
  exact Int.emod_eq_of_lt hy.1 hy.2
theorem mod_more (t k : Int) : (t + k) % k = t % k := by rw [Int.add_emod_right]
theorem Thru.pat {ys zs : List Int} {k : Nat} (h : Thru ys zs k k) (o : Ord ys k) (hk : 1 ≤ k ∧ k ≤ 12) : vpat zs = true := by
  obtain ⟨hl, hb⟩ := h
  unfold vpat
  rw [Bool.and_eq_true]
  refine ⟨thr_iff.2 ⟨fun i hi => by have := (hb i (by omega)).1; omega, by omega, by omega⟩, ncl_yes fun j hj i hi => ?_⟩
  unfold lnd
  rw [hl, (hb i (by omega)).2, (hb j (by omega)).2]
  exact o.2.2 i j hi (by omega)
/-- A drawn pattern, in memory made behind w. -/
def DrawnV (w0 w : World) (g : Nat) (A : Option Addr) (n c : Nat) (xs : List Int) (top : Nat) (e : Ending) (w' : World) : Prop :=
  ∃ (B : Option Addr) (m d : Nat) (ys : List Int), e = .returned (.slice B m d) ∧ w'.ownsRow w.heap.size 2 1 (.slice B m d) m (ys.map (Value.int .i64)) ∧ (1 ≤ m ∧ m ≤ 12) ∧ vpat ys = true ∧ Srd w0 w' g A n c xs top ∧ w.grownBy w' (some g)
set_option maxHeartbeats 4000000 in
set_option maxRecDepth 100000 in
theorem l02DrawV_any (q : Nat) (w0 w : World) (g : Nat) (A : Option Addr) (n c : Nat) (xs : List Int) (top : Nat) (h : Srd w0 w g A n c xs top) (ht : top ≤ 900000000) (hq : 1 ≤ q ∧ q ≤ 7) :
    Calls Tryd.prog 86 #[.pointer (some ⟨g, 0, none⟩), .int .i64 q] w (DrawnV w0 w g A n c xs (top + 400)) := by
  have hlt := h.lt
  go_enter Tryd.func86, Tryd.ntmps86
  go_wp2_with fail
  (with_reducible refine (pick_any q w0 _ g A n c xs top h (by omega)).mono ?_)
  rintro e w1 ⟨x, rfl, hx, hs1, hg1⟩
  obtain ⟨r, hr⟩ : ∃ r : Nat, 1 + x = r := ⟨(1 + x).toNat, by omega⟩
  have hr7 : 1 ≤ r ∧ r ≤ 7 := by omega
  have hz1 := hg1.size
  have hg2 := grown_new hg1 (.cells #[] 2)
  have hs2 := hs1.after (show Ext w1 (w1.alloc (.cells #[] 2)) from (by with_reducible (repeat (first | exact Ext.refl _ | apply Ext.drewN | apply Ext.drew | apply Ext.alloc | (refine Ext.set ?_ (by first | (simp; done) | (simp; omega) | omega) _) | (refine Ext.trans ?_ (by assumption))))))
  go_wp2
  go_loopw [6, 7, 8] (fun v i _ wr => ∃ (k : Nat) (ys : List Int), k ≤ r ∧ i = .int .i64 k ∧ wr.ownsRow w.heap.size 2 1 v k (ys.map (Value.int .i64)) ∧ Hid (Ord ys k) ∧ Srd w0 wr g A n c xs (top + 2 + 2 * k) ∧ w.grownBy wr (some g)) (fun _ i _ _ => r - (intOf i).toNat)
  case atStart => exact ⟨0, [], by omega, rfl, own_new w1 hz1, Ord.zero, hs2, hg2⟩
  case round =>
    obtain ⟨k, ys, hk, rfl, hown, hbd, hsr, hgr⟩ := hrel
    by_cases hkr : k < r
    · have hki : (k : Int) < r := by omega
      have hzr := hgr.size
      have HB := hbd
      clear hbd
      go_wp2_with fail
      (with_reducible refine (pick_any (k + 1) w0 _ g A n c xs _ hsr (by omega)).mono ?_)
      rintro e w2 ⟨x2, rfl, hx2, hs3, hg3⟩
      obtain ⟨a, rfl⟩ : ∃ a : Nat, x2 = a := ⟨x2.toNat, by omega⟩
      have hgr2 := grown_trans hgr hg3
      have hown2 := own_keep hown hg3 hlt
      have hz2 := hgr2.size
      have hak : a = k ∨ (a < k ∧ (a : Int) < k) := by omega
      have hyl : ys.length = k := by have := hown.1; simpa using this
      have HZ : Hid (Ord (((ys ++ [(k : Int)]).set k ((ys ++ [(k : Int)])[a]?.getD 0)).set a (k : Int)) (k + 1)) := HB.out.step (by omega)
      clear hyl
      have hs4 := hs3.after (show Ext w2 (w2.alloc (.cells #[.int .i64 k] 2)) from (by with_reducible (repeat (first | exact Ext.refl _ | apply Ext.drewN | apply Ext.drew | apply Ext.alloc | (refine Ext.set ?_ (by first | (simp; done) | (simp; omega) | omega) _) | (refine Ext.trans ?_ (by assumption))))))
      have hgr3 := grown_new hgr2 (.cells #[.int .i64 k] 2)
      rcases hak with rfl | ⟨hak, haki⟩
      · go_wp2_with (first | (at_builtin; refine appL elInt (by omega) rfl _ _ Tryd.underlying50 rfl rfl (own_ext hown2 ((Ext.refl _).alloc _)) (by simp; omega) (by omega) rfl (heap_alloc_new _ _) (ys := [_]) (by rfl) (by rfl) ?_; intro v' w3 hown3 hg4; obtain ⟨g1, c1, hv1, hg1a, hg1b⟩ := World.ownsRow.form hown3 (by omega); subst hv1; obtain ⟨hcA, hfA⟩ := own_cell hown3 (p := a) (by omega)))
        go_roundw
        case rel => exact ⟨a + 1, _, by omega, by go_num, own_store (own_store hown3 _ _) _ _, HZ, ((hs4.own hg4 (fun b hb => Nat.lt_of_lt_of_le hlt (World.ownsRow.lt hown2 b hb).1)).put (by show g < g1; omega) _).put (by show g < g1; omega) _, grown_put (grown_put (grown_own hgr3 hg4 (fun b hb => (World.ownsRow.lt hown2 b hb).1)) (by show w.heap.size ≤ g1; omega) _) (by show w.heap.size ≤ g1; omega) _⟩
        case measure => simp [intOf]; omega
      · go_wp2_with (first | (at_builtin; refine appL elInt (by omega) rfl _ _ Tryd.underlying50 rfl rfl (own_ext hown2 ((Ext.refl _).alloc _)) (by simp; omega) (by omega) rfl (heap_alloc_new _ _) (ys := [_]) (by rfl) (by rfl) ?_; intro v' w3 hown3 hg4; obtain ⟨g1, c1, hv1, hg1a, hg1b⟩ := World.ownsRow.form hown3 (by omega); subst hv1; obtain ⟨hcA, hfA⟩ := own_cell hown3 (p := a) (by omega); obtain ⟨hcK, hfK⟩ := own_cell hown3 (p := k) (by omega)))
        go_roundw
        case rel => exact ⟨k + 1, _, by omega, by go_num, own_store (own_store hown3 _ _) _ _, HZ, ((hs4.own hg4 (fun b hb => Nat.lt_of_lt_of_le hlt (World.ownsRow.lt hown2 b hb).1)).put (by show g < g1; omega) _).put (by show g < g1; omega) _, grown_put (grown_put (grown_own hgr3 hg4 (fun b hb => (World.ownsRow.lt hown2 b hb).1)) (by show w.heap.size ≤ g1; omega) _) (by show w.heap.size ≤ g1; omega) _⟩
        case measure => simp [intOf]; omega
    · obtain rfl : k = r := by omega
      have hyl : ys.length = k := by have := hown.1; simpa using this
      obtain ⟨gl, cl, hvl, hgl1, hgl2⟩ := World.ownsRow.form hown (by omega)
      subst hvl
      have HB := hbd
      clear hbd
      obtain ⟨wo, rfl⟩ : ∃ wo : World, wo = wr := ⟨_, rfl⟩
      have hs2' := hsr.after (show Ext wo (wo.alloc (.cells #[] 2)) from (by with_reducible (repeat (first | exact Ext.refl _ | apply Ext.drewN | apply Ext.drew | apply Ext.alloc | (refine Ext.set ?_ (by first | (simp; done) | (simp; omega) | omega) _) | (refine Ext.trans ?_ (by assumption))))))
      have hgr2' := grown_new hgr (.cells #[] 2)
      have hown1 := own_ext hown (show Ext wo (wo.alloc (.cells #[] 2)) from (by with_reducible (repeat (first | exact Ext.refl _ | apply Ext.drewN | apply Ext.drew | apply Ext.alloc | (refine Ext.set ?_ (by first | (simp; done) | (simp; omega) | omega) _) | (refine Ext.trans ?_ (by assumption))))))
      have hzr := hgr.size
      go_wp2
      go_loopw [9, 10, 11] (fun v i _ wy => ∃ (j : Nat) (zs : List Int) (vv : Value), j ≤ k ∧ i = .int .i64 j ∧ vv = v ∧ wy.ownsRow wo.heap.size 2 1 vv j (zs.map (Value.int .i64)) ∧ Hid (Thru ys zs k j) ∧ wy.ownsRow w.heap.size 2 1 (.slice (some ⟨gl, 0, none⟩) k cl) k (ys.map (Value.int .i64)) ∧ Srd w0 wy g A n c xs (top + 20 + 30 * j) ∧ w.grownBy wy (some g) ∧ wo.heap.size ≤ wy.heap.size) (fun _ i _ _ => k - (intOf i).toNat)
      case atStart => exact ⟨0, [], _, by omega, rfl, rfl, own_new wo (Nat.le_refl _), Thru.zero _ _, hown1, hs2'.more (by omega), hgr2', by simp⟩
      case round =>
        obtain ⟨j, zs, vv, hj, rfl, rfl, hzo, hzb, hlo, hsy, hgy, hzy⟩ := hrel
        by_cases hjk : j < k
        · have hji : (j : Int) < k := by omega
          have HZB := hzb
          clear hzb
          obtain ⟨hcj, _⟩ := own_cell hlo (p := j) hjk
          have hyb := HB.out.2.1 j hjk
          have HLD : Hid (((j : Int) + (ys[j]?.getD 0 - j) % (k : Int)) % (k : Int) = ys[j]?.getD 0) := mod_land (by omega) hyb
          have e1 := Int.emod_nonneg (ys[j]?.getD 0 - j) (show (k : Int) ≠ 0 by omega)
          have e2 := Int.emod_lt_of_pos (ys[j]?.getD 0 - j) (show 0 < (k : Int) by omega)
          obtain ⟨t0, ht0⟩ : ∃ t0 : Nat, (ys[j]?.getD 0 - j) % (k : Int) = t0 := ⟨_, (Int.toNat_of_nonneg e1).symm⟩
          rw [ht0] at e1 e2 HLD
          have HT0 := Lib.hid ht0
          clear ht0
          have HYJ : Hid (∃ yj, ys[j]?.getD 0 = yj) := ⟨_, rfl⟩
          obtain ⟨yj, hyj⟩ := HYJ.out
          rw [hyj] at hyb HLD hcj HT0
          have HYE := Lib.hid hyj
          clear hyj HYJ
          go_wp2_with (first | (go_at_call 97; (with_reducible refine (l02Mod_is _ _ _ _ (by omega) (by omega) HT0.out).mono ?_); rintro e w' ⟨rfl, rfl⟩))
          go_loopw [11] (fun t wt => ∃ tt : Nat, tt ≤ 9 ∧ t = .int .i64 tt ∧ Hid (((j : Int) + tt) % (k : Int) = ys[j]?.getD 0) ∧ wt.ownsRow wo.heap.size 2 1 vv j (zs.map (Value.int .i64)) ∧ wt.ownsRow w.heap.size 2 1 (.slice (some ⟨gl, 0, none⟩) k cl) k (ys.map (Value.int .i64)) ∧ Srd w0 wt g A n c xs (top + 20 + 30 * j + 2 * tt) ∧ w.grownBy wt (some g) ∧ wo.heap.size ≤ wt.heap.size) (fun t _ => 20 - (intOf t).toNat)
          case atStart => exact ⟨t0, by omega, rfl, by rw [HYE.out]; exact HLD, hzo, hlo, hsy.more (by omega), hgy, hzy⟩
          case round =>
            obtain ⟨tt, htt, rfl, hml, hzo2, hlo2, hst, hgt, hzt⟩ := hrel
            by_cases h9 : (tt : Int) + k ≤ 9
            · go_wp2_with fail
              (with_reducible refine (one_any 2 w0 _ g A n c xs _ hst (by omega)).mono ?_)
              rintro e w4 ⟨b, rfl, hs5, hg5⟩
              have hzo3 := own_keep hzo2 hg5 (by omega)
              have hlo3 := own_keep hlo2 hg5 hlt
              have hgy3 := grown_trans hgt hg5
              have hz4 := hg5.size
              cases b
              · go_wp2_with (first | (at_builtin; refine appL elInt (by omega) rfl _ _ Tryd.underlying50 rfl rfl (own_ext hzo3 ((Ext.refl _).alloc _)) (by simp; omega) (by omega) rfl (heap_alloc_new _ _) (ys := [_]) (by rfl) (by rfl) ?_; intro v' w3 hown3 hg4))
                go_roundw
                case rel => exact ⟨j + 1, _, _, by omega, by go_num, rfl, hown3, HZB.out.step (by omega) hml.out, own_far (own_ext hlo3 ((Ext.refl _).alloc _)) hg4 (fun b hb e => by have h1 := (World.ownsRow.lt hzo3 b hb).1; cases e; have h2 : wo.heap.size ≤ gl := h1; omega), ((hs5.after ((Ext.refl _).alloc _)).own hg4 (fun b hb => by have h1 := (World.ownsRow.lt hzo3 b hb).1; omega)).more (by omega), grown_own (grown_new hgy3 _) hg4 (fun b hb => by have h1 := (World.ownsRow.lt hzo3 b hb).1; omega), by have h1 := hg4.size; simp at h1; omega⟩
                case measure => simp [intOf]; omega
              · go_wp2
                go_roundw
                case rel => exact ⟨tt + k, by omega, by go_num, by show (_ : Int) = _; rw [← hml.out, show (j : Int) + ((tt + k : Nat) : Int) = (j + tt) + k by omega, mod_more], hzo3, hlo3, hs5.more (by omega), hgy3, by omega⟩
                case measure => simp [intOf]; omega
            · go_wp2_with (first | (at_builtin; refine appL elInt (by omega) rfl _ _ Tryd.underlying50 rfl rfl (own_ext hzo2 ((Ext.refl _).alloc _)) (by simp; omega) (by omega) rfl (heap_alloc_new _ _) (ys := [_]) (by rfl) (by rfl) ?_; intro v' w3 hown3 hg4))
              go_roundw
              case rel => exact ⟨j + 1, _, _, by omega, by go_num, rfl, hown3, HZB.out.step (by omega) hml.out, own_far (own_ext hlo2 ((Ext.refl _).alloc _)) hg4 (fun b hb e => by have h1 := (World.ownsRow.lt hzo2 b hb).1; cases e; have h2 : wo.heap.size ≤ gl := h1; omega), ((hst.after ((Ext.refl _).alloc _)).own hg4 (fun b hb => by have h1 := (World.ownsRow.lt hzo2 b hb).1; omega)).more (by omega), grown_own (grown_new hgt _) hg4 (fun b hb => by have h1 := (World.ownsRow.lt hzo2 b hb).1; omega), by have h1 := hg4.size; simp at h1; omega⟩
              case measure => simp [intOf]; omega
        · obtain rfl : j = k := by omega
          obtain ⟨g3, c3, hv3, hg3a, hg3b⟩ := World.ownsRow.form hzo (by omega)
          subst hv3
          have HF : Hid (DrawnV w0 w g A n c xs (top + 400) (.returned (.slice (some ⟨g3, 0, none⟩) j c3)) wr) := ⟨_, j, _, zs, rfl, ownsRow_le hzo hzr, ⟨by omega, by omega⟩, hzb.out.pat HB.out (by omega), hsy.more (by omega), hgy⟩
          go_wp2
          go_ret
          exact HF.out
end Go.Proofs.YtinkaglngblddaaDoor
