/- Drawn routines: contracts of l03Checked, SwapLandings, l02High of a list of throws, l19Pattern. No condition but the stated bounds. -/
import Derived.Test.YtinkaglngblddaaDoorLow
import Derived.Test.YtinkaglngblddaaDoorDrw
import Derived.Test.YtinkaglngblddaaDoorMea
import Derived.Test.YtinkaglngblddaaDoorLate
namespace Go.Proofs.YtinkaglngblddaaDoor
set_option linter.unusedVariables false
set_option linter.unusedSimpArgs false
open Go.ChangeShapes Go.WideShapes Go.ChangeAt Go.RowKit Go.Joins Go.Deep

theorem thr_bd {xs : List Int} (h : thr xs = true) : ∀ y ∈ xs, 0 ≤ y ∧ y ≤ 15 := by
  intro y hy
  obtain ⟨i, hi, rfl⟩ := List.mem_iff_getElem.1 hy
  have := (thr_iff.1 h).1 i hi
  rw [List.getElem?_eq_getElem hi] at this
  simpa using this
/-- What SwapLandings hands back. -/
def RetSw (w : World) (n : Nat) (e : Ending) (w' : World) : Prop :=
  ∃ (B : Option Addr) (d : Nat) (ys : List Int) (r : Int), e = .returned (.tuple #[.slice B ys.length d, .int .i64 r]) ∧ w'.ownsRow w.heap.size 2 1 (.slice B ys.length d) ys.length (ys.map (Value.int .i64)) ∧ (r = 0 → thr ys = true ∧ ys.length = n) ∧ (∀ y ∈ ys, -100 ≤ y ∧ y ≤ 100) ∧ Ext w w'
theorem retSw_none {w w' : World} {n : Nat} {r : Int} (hr : r ≠ 0) (hx : Ext w w') : RetSw w n (.returned (.tuple #[.slice none 0 0, .int .i64 r])) w' :=
  ⟨none, 0, [], r, rfl, ⟨rfl, .inl ⟨rfl, rfl⟩⟩, fun e => absurd e hr, by simp, hx⟩
theorem l03Checked_any (A : Option Addr) (n c : Nat) (xs : List Int) (w : World) (hI : Ints w A n xs) (v : Bool) (hv : thr xs = v) :
    Calls Tryd.prog 98 #[.slice A n c] w fun e w' => e = .returned (if v then .tuple #[.slice A n c, .int .i64 0] else .tuple #[.slice none 0 0, .int .i64 2]) ∧ Qt w w' := by
  have HV := Lib.hid hv
  clear hv
  go_enter Tryd.func98, Tryd.ntmps98
  go_wp2_with fail
  (with_reducible refine (l02List_any A n c xs _ hI).mono ?_)
  rw [HV.out]
  rintro e w1 ⟨rfl, hx1⟩
  cases v
  · go_wp2
    go_ret2
    exact ⟨rfl, by subst hx1; exact Qt.refl _⟩
  · go_wp2
    go_ret2
    exact ⟨rfl, by subst hx1; exact Qt.refl _⟩
set_option maxHeartbeats 4000000 in
set_option maxRecDepth 100000 in
theorem SwapLandings_any (A : Option Addr) (n c : Nat) (xs : List Int) (i k : Nat) (w : World) (hI : Ints w A n xs) (ht : thr xs = true) (hi : i < n) (hk : k < n) :
    Calls Tryd.prog 88 #[.slice A n c, .int .i64 i, .int .i64 k] w (RetSw w n) := by
  have hn12 := (thr_iff.1 ht).2
  rw [hI.len] at hn12
  have hib := (thr_iff.1 ht).1 i (by rw [hI.len]; exact hi)
  have hkb := (thr_iff.1 ht).1 k (by rw [hI.len]; exact hk)
  have hbd := thr_bd ht
  have HT := Lib.hid ht
  clear ht
  cases hv : vpat xs
  · have HV := Lib.hid hv
    clear hv
    go_enter Tryd.func88, Tryd.ntmps88
    go_wp2_with fail
    (with_reducible refine (l02Ok_is A n c xs false HV.out _ hI).mono ?_)
    rintro e w1 ⟨rfl, q1, rfl⟩
    go_wp2
    exact bodyPost_ret (v := .tuple #[.slice none 0 0, .int .i64 1]) (by simp [results, Tryd.results88, go_sem, *]) rfl (retSw_none (by decide) (by with_reducible (repeat (first | exact Ext.refl _ | apply Ext.drewN | apply Ext.drew | apply Ext.alloc | (refine Ext.set ?_ (by first | (simp; done) | (simp; omega) | omega) _) | (refine Ext.trans ?_ (by assumption))))))
  · have HV := Lib.hid hv
    clear hv
    have HB := Lib.hid hbd
    clear hbd
    have hb1 : btw (i : Int) 0 ((n : Int) - 1) = true := btw_iff.2 (by omega)
    have hb2 : btw (k : Int) 0 ((n : Int) - 1) = true := btw_iff.2 (by omega)
    have HB1 := Lib.hid hb1
    have HB2 := Lib.hid hb2
    clear hb1 hb2
    have hii : (i : Int) < n := by omega
    have hki : (k : Int) < n := by omega
    obtain ⟨b, off, hA, hb, hcell⟩ := hI.at_ (by omega)
    subst hA
    have hlen := hI.len
    go_enter Tryd.func88, Tryd.ntmps88
    go_wp2_with fail
    (with_reducible refine (l02Ok_is _ n c xs true HV.out _ hI).mono ?_)
    rintro e w1 ⟨rfl, q1, rfl⟩
    go_wp2_with (first | (go_at_call 49; (with_reducible refine (l00In_is _ _ _ true HB1.out _).mono ?_); rintro e w' ⟨rfl, rfl⟩) | (go_at_call 49; (with_reducible refine (l00In_is _ _ _ true HB2.out _).mono ?_); rintro e w' ⟨rfl, rfl⟩) | fail)
    (with_reducible refine (l00Own_any _ n c xs _ (hI.ext (by with_reducible (repeat (first | exact Ext.refl _ | apply Ext.drewN | apply Ext.drew | apply Ext.alloc | (refine Ext.set ?_ (by first | (simp; done) | (simp; omega) | omega) _) | (refine Ext.trans ?_ (by assumption)))))) (by omega)).mono ?_)
    rintro e w2 ⟨A1, c1, rfl, ho2⟩
    obtain ⟨g1, c1', hv1, hg1a, hg1b⟩ := World.ownsRow.form ho2.own (by omega)
    cases hv1
    have hown2 : w2.ownsRow w.heap.size 2 1 (.slice (some ⟨g1, 0, none⟩) n c1) n (xs.map (Value.int .i64)) := ho2.own
    have hE2 : Ext w w2 := Ext.trans (by with_reducible (repeat (first | exact Ext.refl _ | apply Ext.drewN | apply Ext.drew | apply Ext.alloc | (refine Ext.set ?_ (by first | (simp; done) | (simp; omega) | omega) _) | (refine Ext.trans ?_ (by assumption))))) ho2.ext
    have hz2 := hE2.size
    have hg1a : w.heap.size ≤ g1 := hg1a
    clear ho2
    obtain ⟨ci, fi⟩ := own_cell hown2 (p := i) hi
    obtain ⟨ck, fk⟩ := own_cell hown2 (p := k) hk
    have di := hE2.cell hb (hcell i hi)
    have dk := hE2.cell hb (hcell k hk)
    have hbg : b ≠ g1 := by omega
    have hgb : g1 ≠ b := by omega
    have hng1 : g1 < w2.heap.size := hg1b
    obtain ⟨pi, hpi⟩ : ∃ pi, xs[i]?.getD 0 = pi := ⟨_, rfl⟩
    obtain ⟨pk, hpk⟩ : ∃ pk, xs[k]?.getD 0 = pk := ⟨_, rfl⟩
    rw [hpi] at ci di hib
    rw [hpk] at ck dk hkb
    by_cases hik : i = k
    · subst hik
      obtain rfl : pi = pk := hpi.symm.trans hpk
      have e1 : IntKind.i64.wrap (pi + (i : Int)) = pi + i := IntWalk.i64_in _ (by omega)
      have e2 : IntKind.i64.wrap pi = pi := IntWalk.i64_in _ (by omega)
      clear hpi hpk
      have HO4 : Hid (((w2.setCell ⟨g1, i, none⟩ (.int .i64 (pi))).setCell ⟨g1, i, none⟩ (.int .i64 (pi))).ownsRow w.heap.size 2 1 (.slice (some ⟨g1, 0, none⟩) n c1) n (((xs.set i (pi)).set i (pi)).map (Value.int .i64)) ∧ Ext w ((w2.setCell ⟨g1, i, none⟩ (.int .i64 (pi))).setCell ⟨g1, i, none⟩ (.int .i64 (pi)))) :=
        ⟨own_store (own_store hown2 _ _) _ _, (hE2.set hg1a _).set hg1a _⟩
      have hyb : Hid (∀ y ∈ (xs.set i (pi)).set i (pi), -100 ≤ y ∧ y ≤ 100) := set_bd (set_bd (fun y hy => by have := HB.out y hy; omega) (by omega) i) (by omega) i
      have hyl : ((xs.set i (pi)).set i (pi)).length = n := by simp [hlen]
      have HYL := Lib.hid hyl
      generalize (xs.set i (pi)).set i (pi) = ys at *
      clear hyl hcell hI hown2 hE2
      have hI4 : Ints ((w2.setCell ⟨g1, i, none⟩ (.int .i64 (pi))).setCell ⟨g1, i, none⟩ (.int .i64 (pi))) (some ⟨g1, 0, none⟩) n ys := Ints.of_own HO4.out.1 (by omega) (fun y hy => by have := hyb.out y hy; omega)
      have HI4 := Lib.hid hI4
      clear hI4
      cases hv : thr ys
      · have HV := Lib.hid hv
        clear hv
        go_wp2_with fail
        (with_reducible refine (l03Checked_any _ n c1 ys _ HI4.out _ HV.out).mono ?_)
        rintro e w5 ⟨rfl, q5, rfl⟩
        go_wp2
        exact bodyPost_ret (v := .tuple #[.slice none 0 0, .int .i64 2]) (by simp [results, Tryd.results88, go_sem, *]) rfl (retSw_none (by decide) (HO4.out.2.drewN _))
      · have HV := Lib.hid hv
        clear hv
        go_wp2_with fail
        (with_reducible refine (l03Checked_any _ n c1 ys _ HI4.out _ HV.out).mono ?_)
        rintro e w5 ⟨rfl, q5, rfl⟩
        go_wp2
        exact bodyPost_ret (v := .tuple #[.slice (some ⟨g1, 0, none⟩) n c1, .int .i64 0]) (by simp [results, Tryd.results88, go_sem, *]) rfl ⟨some ⟨g1, 0, none⟩, c1, ys, 0, (by rw [HYL.out]), (by rw [HYL.out]; exact own_ext HO4.out.1 ((Ext.refl _).drewN _)), fun _ => ⟨HV.out, HYL.out⟩, hyb.out, HO4.out.2.drewN _⟩
    · skip
      have e1 : IntKind.i64.wrap (pk + (k : Int)) = pk + k := IntWalk.i64_in _ (by omega)
      have e2 : IntKind.i64.wrap (pk + (k : Int) - i) = pk + k - i := IntWalk.i64_in _ (by omega)
      have e3 : IntKind.i64.wrap (pi + (i : Int)) = pi + i := IntWalk.i64_in _ (by omega)
      have e4 : IntKind.i64.wrap (pi + (i : Int) - k) = pi + i - k := IntWalk.i64_in _ (by omega)
      have hki' : k ≠ i := fun e => hik e.symm
      clear hpi hpk
      have HO4 : Hid (((w2.setCell ⟨g1, i, none⟩ (.int .i64 (pk + k - i))).setCell ⟨g1, k, none⟩ (.int .i64 (pi + i - k))).ownsRow w.heap.size 2 1 (.slice (some ⟨g1, 0, none⟩) n c1) n (((xs.set i (pk + k - i)).set k (pi + i - k)).map (Value.int .i64)) ∧ Ext w ((w2.setCell ⟨g1, i, none⟩ (.int .i64 (pk + k - i))).setCell ⟨g1, k, none⟩ (.int .i64 (pi + i - k)))) :=
        ⟨own_store (own_store hown2 _ _) _ _, (hE2.set hg1a _).set hg1a _⟩
      have hyb : Hid (∀ y ∈ (xs.set i (pk + k - i)).set k (pi + i - k), -100 ≤ y ∧ y ≤ 100) := set_bd (set_bd (fun y hy => by have := HB.out y hy; omega) (by omega) i) (by omega) k
      have hyl : ((xs.set i (pk + k - i)).set k (pi + i - k)).length = n := by simp [hlen]
      have HYL := Lib.hid hyl
      generalize (xs.set i (pk + k - i)).set k (pi + i - k) = ys at *
      clear hyl hcell hI hown2 hE2
      have hI4 : Ints ((w2.setCell ⟨g1, i, none⟩ (.int .i64 (pk + k - i))).setCell ⟨g1, k, none⟩ (.int .i64 (pi + i - k))) (some ⟨g1, 0, none⟩) n ys := Ints.of_own HO4.out.1 (by omega) (fun y hy => by have := hyb.out y hy; omega)
      have HI4 := Lib.hid hI4
      clear hI4
      cases hv : thr ys
      · have HV := Lib.hid hv
        clear hv
        go_wp2_with fail
        (with_reducible refine (l03Checked_any _ n c1 ys _ HI4.out _ HV.out).mono ?_)
        rintro e w5 ⟨rfl, q5, rfl⟩
        go_wp2
        exact bodyPost_ret (v := .tuple #[.slice none 0 0, .int .i64 2]) (by simp [results, Tryd.results88, go_sem, *]) rfl (retSw_none (by decide) (HO4.out.2.drewN _))
      · have HV := Lib.hid hv
        clear hv
        go_wp2_with fail
        (with_reducible refine (l03Checked_any _ n c1 ys _ HI4.out _ HV.out).mono ?_)
        rintro e w5 ⟨rfl, q5, rfl⟩
        go_wp2
        exact bodyPost_ret (v := .tuple #[.slice (some ⟨g1, 0, none⟩) n c1, .int .i64 0]) (by simp [results, Tryd.results88, go_sem, *]) rfl ⟨some ⟨g1, 0, none⟩, c1, ys, 0, (by rw [HYL.out]), (by rw [HYL.out]; exact own_ext HO4.out.1 ((Ext.refl _).drewN _)), fun _ => ⟨HV.out, HYL.out⟩, hyb.out, HO4.out.2.drewN _⟩
/-- Some number. -/
def SomeI (w : World) (e : Ending) (w' : World) : Prop := ∃ y : Int, e = .returned (.int .i64 y) ∧ w = w'
theorem l02HighT_any (A : Option Addr) (n c : Nat) (xs : List Int) (w : World) (hI : Ints w A n xs) (ht : ∀ y ∈ xs, -100 ≤ y ∧ y ≤ 100) :
    Calls Tryd.prog 76 #[.slice A n c] w (SomeI w) := by
  have hs := hI.small
  have hl := hI.len
  have HB := Lib.hid ht
  clear ht
  go_enter Tryd.func76, Tryd.ntmps76
  go_wp2_with (first | (go_at_call 91; (with_reducible refine (l00Max_any _ _ _).mono ?_); rintro e w' ⟨rfl, rfl⟩))
  go_loop [3, 4] (fun s i => ∃ (k : Nat) (z : Int), k ≤ n ∧ i = .int .i64 k ∧ s = .int .i64 z ∧ -100 ≤ z ∧ z ≤ 100) (fun _ i => n - (intOf i).toNat)
  case atStart => exact ⟨0, 0, by omega, rfl, rfl, by omega, by omega⟩
  case round =>
    obtain ⟨k, z, hk, rfl, rfl, hz1, hz2⟩ := hrel
    by_cases hlt : k < n
    · obtain ⟨b, off, hA, hb, hcell⟩ := hI.at_ (by omega)
      first | subst hA | (injection hA with hA; injection hA with hA1 hA2; subst hA1; subst hA2)
      have hc := hcell k hlt
      have hbk := getDbd HB.out (i := k) (by omega)
      have ik : (k : Int) < n := by omega
      clear hcell
      generalize xs[k]?.getD 0 = x at *
      have hcm : -100 ≤ cmf z x ∧ cmf z x ≤ 100 := by unfold cmf; split <;> omega
      go_wp2_with (first | (go_at_call 91; (with_reducible refine (l00Max_any _ _ _).mono ?_); rintro e w' ⟨rfl, rfl⟩))
      go_round
      case rel => exact ⟨k + 1, _, by omega, by go_num, rfl, hcm.1, hcm.2⟩
      case measure => simp [intOf]; omega
    · obtain rfl : k = n := by omega
      go_wp2_with (first | (go_at_call 91; (with_reducible refine (l00Max_any _ _ _).mono ?_); rintro e w' ⟨rfl, rfl⟩))
      go_ret
      exact ⟨z, rfl, rfl⟩
/-- What is known of a drawn pattern of a routine. -/
def DrawnT (w0 w : World) (g : Nat) (A : Option Addr) (n c : Nat) (xs : List Int) (top : Nat) (e : Ending) (w' : World) : Prop :=
  ∃ (B : Option Addr) (d : Nat) (ys : List Int), e = .returned (.slice B ys.length d) ∧ w'.ownsRow w.heap.size 2 1 (.slice B ys.length d) ys.length (ys.map (Value.int .i64)) ∧ thr ys = true ∧ ys.length ≤ 5 ∧ Srd w0 w' g A n c xs top ∧ w.grownBy w' (some g)
set_option maxHeartbeats 4000000 in
set_option maxRecDepth 100000 in
theorem l19Pattern_any (pr : Int) (w0 w : World) (g : Nat) (A : Option Addr) (n c : Nat) (xs : List Int) (top : Nat) (h : Srd w0 w g A n c xs top) (ht : top ≤ 900000000) (hpr : 0 ≤ pr ∧ pr ≤ 8) :
    Calls Tryd.prog 71 #[.pointer (some ⟨g, 0, none⟩), .int .i64 pr] w (DrawnT w0 w g A n c xs (top + 40)) := by
  have hlt := h.lt
  go_enter Tryd.func71, Tryd.ntmps71
  go_wp2_with fail
  (with_reducible refine (pick_any 5 w0 _ g A n c xs top h (by omega)).mono ?_)
  rintro e w1 ⟨x, rfl, hx, hs1, hg1⟩
  obtain ⟨r, hr⟩ : ∃ r : Nat, 1 + x = r := ⟨(1 + x).toNat, by omega⟩
  have hr5 : 1 ≤ r ∧ r ≤ 5 := by omega
  have hz1 := hg1.size
  have hg2 := grown_new hg1 (.cells #[] 2)
  have hs2 := hs1.after (show Ext w1 (w1.alloc (.cells #[] 2)) from (by with_reducible (repeat (first | exact Ext.refl _ | apply Ext.drewN | apply Ext.drew | apply Ext.alloc | (refine Ext.set ?_ (by first | (simp; done) | (simp; omega) | omega) _) | (refine Ext.trans ?_ (by assumption))))))
  go_wp2
  go_loopw [6, 7] (fun v i wr => ∃ k : Nat, k ≤ r ∧ i = .int .i64 k ∧ wr.ownsRow w.heap.size 2 1 v k ((List.replicate k pr).map (Value.int .i64)) ∧ Srd w0 wr g A n c xs (top + 2) ∧ w.grownBy wr (some g)) (fun _ i _ => r - (intOf i).toNat)
  case atStart => exact ⟨0, by omega, rfl, own_new w1 hz1, hs2, hg2⟩
  case round =>
    obtain ⟨k, hk, rfl, hown, hsr, hgr⟩ := hrel
    by_cases hkr : k < r
    · have hki : (k : Int) < r := by omega
      have hzr := hgr.size
      have hgr3 := grown_new hgr (.cells #[.int .i64 pr] 2)
      have hs4 := hsr.after (show Ext wr (wr.alloc (.cells #[.int .i64 pr] 2)) from (by with_reducible (repeat (first | exact Ext.refl _ | apply Ext.drewN | apply Ext.drew | apply Ext.alloc | (refine Ext.set ?_ (by first | (simp; done) | (simp; omega) | omega) _) | (refine Ext.trans ?_ (by assumption))))))
      have HRP : Hid (List.replicate (k + 1) pr = List.replicate k pr ++ [pr]) := List.replicate_succ'
      go_wp2_with (first | (at_builtin; refine appL elInt (by omega) rfl _ _ Tryd.underlying50 rfl rfl (own_ext hown ((Ext.refl _).alloc _)) (by simp; omega) (by omega) rfl (heap_alloc_new _ _) (ys := [pr]) (by rfl) (by rfl) ?_; intro v' w3 hown3 hg4))
      rw [← HRP.out] at hown3
      go_roundw
      case rel => exact ⟨k + 1, by omega, by go_num, hown3, hs4.own hg4 (fun b hb => Nat.lt_of_lt_of_le hlt (World.ownsRow.lt hown b hb).1), grown_own hgr3 hg4 (fun b hb => (World.ownsRow.lt hown b hb).1)⟩
      case measure => simp [intOf]; omega
    · obtain rfl : k = r := by omega
      have hown0 := hown
      obtain ⟨gl, cl, hvl, hgl1, hgl2⟩ := World.ownsRow.form hown (by omega)
      subst hvl
      have hzr := hgr.size
      have HY0 : Hid (thr (List.replicate k pr) = true) := thr_iff.2 ⟨fun i hi => by simp at hi; simp [hi]; omega, by simp; omega⟩
      clear hown
      obtain ⟨wo, rfl⟩ : ∃ wo : World, wo = wr := ⟨_, rfl⟩
      go_wp2_with fail
      (with_reducible refine (pick_any 5 w0 _ g A n c xs _ hsr (by omega)).mono ?_)
      rintro e w3 ⟨q, rfl, hq, hs3, hg3⟩
      have hG3 := grown_trans hgr hg3
      have hown3 := own_keep hown0 hg3 hlt
      go_wp2
      go_loopw [6, 8] (fun v i wy => ∃ (j : Int) (B : Option Addr) (d : Nat) (ys : List Int), 0 ≤ j ∧ j ≤ 4 ∧ i = .int .i64 j ∧ v = .slice B k d ∧ wy.ownsRow w.heap.size 2 1 (.slice B k d) k (ys.map (Value.int .i64)) ∧ Hid (thr ys = true ∧ ys.length = k) ∧ Srd w0 wy g A n c xs (top + 4 + 4 * (4 - j).toNat) ∧ w.grownBy wy (some g)) (fun _ i _ => (intOf i).toNat)
      case atStart => exact ⟨q, some ⟨gl, 0, none⟩, cl, _, by omega, by omega, rfl, rfl, hown3, ⟨HY0.out, by simp⟩, hs3.more (by omega), hG3⟩
      case round =>
        obtain ⟨j, B, d, ys, hj0, hj4, rfl, rfl, hownB, HY, hsy, hgy⟩ := hrel
        clear hown3 hown0 hs3 hG3 hg3
        by_cases hj : 0 < j
        · have hji : (0 : Int) < j := hj
          have hzy := hgy.size
          have hB' : ∀ W, Ext wr W → Ints W B k ys := fun W hW => (Ints.of_own (by rw [HY.out.2] at *; exact hownB) (by omega) (fun y hy => by have := thr_bd HY.out.1 y hy; omega) : Ints wr B k ys).ext hW
          go_wp2_with fail
          (with_reducible refine (pick_any k w0 _ g A n c xs _ hsy (by omega)).mono ?_)
          rintro e w4 ⟨i1, rfl, hi1, hs4, hg4⟩
          obtain ⟨ii, rfl⟩ : ∃ ii : Nat, i1 = ii := ⟨i1.toNat, by omega⟩
          have hii : ii < k := by omega
          have hown4 := own_keep hownB hg4 hlt
          have hG4 := grown_trans hgy hg4
          go_wp2_with fail
          (with_reducible refine (pick_any k w0 _ g A n c xs _ hs4 (by omega)).mono ?_)
          rintro e w5 ⟨i2, rfl, hi2, hs5, hg5⟩
          obtain ⟨kk, rfl⟩ : ∃ kk : Nat, i2 = kk := ⟨i2.toNat, by omega⟩
          have hkk : kk < k := by omega
          have hown5 := own_keep hown4 hg5 hlt
          have hG5 := grown_trans hG4 hg5
          have hI5 : Ints w5 B k ys := Ints.of_own hown5 (by omega) (fun y hy => by have := thr_bd HY.out.1 y hy; omega)
          go_wp2_with fail
          (with_reducible refine (SwapLandings_any B k d ys ii kk _ hI5 HY.out.1 hii hkk).mono ?_)
          rintro e w6 ⟨B2, d2, zs, rc, rfl, ho6, hyes, hzb, hx6⟩
          have hs6 := hs5.after hx6
          have hG6 := grown_exts hG5 hx6
          have hown6 := own_ext hown5 hx6
          have hz5 : w.heap.size ≤ w5.heap.size := hG5.size
          have HZB := Lib.hid hzb
          clear hzb hownB hown4 hown5 hs4 hs5 hG4 hG5 hg4 hg5
          by_cases hrc : rc = 0
          · subst hrc
            obtain ⟨hz1', hz2'⟩ := hyes rfl
            have HZ1 := Lib.hid hz1'
            rw [hz2'] at ho6 ⊢
            have hI6 : Ints w6 B2 k zs := Ints.of_own ho6 (by omega) (fun y hy => by have := HZB.out y hy; omega)
            have ho6' : w6.ownsRow w.heap.size 2 1 (.slice B2 k d2) k (zs.map (Value.int .i64)) := ownsRow_le ho6 hz5
            have HZ2 := Lib.hid hz2'
            clear hyes hz1' hz2' ho6
            go_wp2_with fail
            (with_reducible refine (l02HighT_any B2 k d2 zs _ hI6 HZB.out).mono ?_)
            rintro e w7 ⟨hy, rfl, rfl⟩
            by_cases h8 : hy ≤ 8
            · go_wp2
              go_roundw
              case rel => exact ⟨j - 1, B2, d2, zs, by omega, by omega, by go_num, rfl, ho6', ⟨HZ1.out, HZ2.out⟩, hs6.more (by omega), hG6⟩
              case measure => simp [intOf]; omega
            · go_wp2
              go_roundw
              case rel => exact ⟨j - 1, B, d, ys, by omega, by omega, by go_num, rfl, hown6, HY, hs6.more (by omega), hG6⟩
              case measure => simp [intOf]; omega
          · have hrb : (rc == 0) = false := by simpa using hrc
            clear hyes ho6
            go_wp2
            go_roundw
            case rel => exact ⟨j - 1, B, d, ys, by omega, by omega, by go_num, rfl, hown6, HY, hs6.more (by omega), hG6⟩
            case measure => simp [intOf]; omega
        · obtain rfl : j = 0 := by omega
          have HYL := Lib.hid HY.out.2
          have HF : Hid (DrawnT w0 w g A n c xs (top + 40) (.returned (.slice B k d)) wr) := by
            refine ⟨B, d, ys, by rw [HYL.out], ?_, HY.out.1, by rw [HYL.out]; omega, hsy.more (by omega), hgy⟩
            rw [HYL.out]
            exact hownB
          clear hownB hsy hgy
          go_wp2
          go_ret
          exact HF.out
end Go.Proofs.YtinkaglngblddaaDoor
