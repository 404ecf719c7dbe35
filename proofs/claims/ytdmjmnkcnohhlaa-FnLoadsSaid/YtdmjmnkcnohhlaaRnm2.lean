/- Renamed hands: RenameHands by the reference, and the draw of both. No condition but the stated bounds. -/
import Derived.Test.YtdmjmnkcnohhlaaRnm
namespace Go.Proofs.Ytdmjmnkcnohhlaa
set_option linter.unusedVariables false
set_option linter.unusedSimpArgs false
open Go.RowKit Go.Joins

def prk (ns : List Int) (H k : Nat) : Bool := decide (ns.length = H ∧ ∀ h : Nat, h < k → sn ns ns.length h = true)
theorem prk_succ (ns : List Int) (H k : Nat) : prk ns H (k + 1) = (prk ns H k && sn ns ns.length k) := by
  unfold prk
  rw [Bool.eq_iff_iff, Bool.and_eq_true, decide_eq_true_iff, decide_eq_true_iff]
  constructor
  · rintro ⟨h1, h2⟩
    exact ⟨⟨h1, fun h hh => h2 h (by omega)⟩, h2 k (by omega)⟩
  · rintro ⟨⟨h1, h2⟩, h3⟩
    refine ⟨h1, fun h hh => ?_⟩
    by_cases e : h = k
    · rw [e]; exact h3
    · exact h2 h (by omega)
theorem rnv_bd (os ns : List Int) : rnn os ns ≤ 1048576 ∧ ∀ y ∈ rnv os ns, -9223372036854775808 ≤ y ∧ y ≤ 9223372036854775807 := by
  by_cases h : rnc os ns = 0
  · obtain ⟨hv, hp⟩ := rnc_zero h
    obtain ⟨_, e1, e2⟩ := rnv_yes hv hp
    rw [e1, e2]
    have := (vhd_iff hv).1
    exact ⟨by omega, fun y hy => by have := rnm_bd hv hp y hy; omega⟩
  · obtain ⟨e1, e2⟩ := rnv_no rfl h
    rw [e1, e2]
    simp
set_option maxHeartbeats 4000000 in
theorem specRename_ret (A : Option Addr) (n c : Nat) (os : List Int) (B : Option Addr) (m d : Nat) (ns : List Int) (w : World) (hI : Ints w A n os) (hJ : Ints w B m ns) :
    Calls Try.prog 13 #[.slice A n c, .slice B m d] w (RetRow w 2 1 (rnn os ns) (rnv os ns) (rnc os ns)) := by
  have hsm := hJ.small
  cases hv : vhd os
  · have h1 : rnc os ns = 1 := by unfold rnc; rw [hv]; rfl
    rw [(rnv_no h1 (by omega)).1, (rnv_no h1 (by omega)).2, h1]
    go_enter Try.func13, Try.ntmps13
    go_wp2_with (first | (go_at_call 43; (with_reducible refine (l14Ok_is _ _ _ os _ hI _ hv).mono ?_); rintro e w' ⟨rfl, rfl⟩) | (go_at_call 43; (with_reducible refine (l14Ok_is _ _ _ os _ hI _ hv).mono ?_); rintro e w' ⟨rfl, n, rfl⟩) | (go_at_call 43; (with_reducible refine (l14Ok_is _ _ _ os _ (hI.ext (by with_reducible (repeat (first | exact Ext.refl _ | apply Ext.drewN | apply Ext.drew | apply Ext.alloc | (refine Ext.set ?_ (by first | (simp; done) | (simp; omega) | omega) _) | (refine Ext.trans ?_ (by assumption)))))) _ hv).mono ?_); rintro e w1 ⟨rfl, hx⟩; have hz := hx.size; (try simp at hz); (try (have hq0 : w.heap.size < w1.heap.size := by omega)); (try (have hc0 : ∀ o, w1.cell? ⟨w.heap.size, o, none⟩ = _ := fun o => hx.cells.1 _ o (by first | (simp; done) | (simp; omega) | omega))); (try (have hf0 : ∀ o, w1.frozen? ⟨w.heap.size, o, none⟩ = _ := fun o => hx.cells.2 _ o (by first | (simp; done) | (simp; omega) | omega))); (try (have hq1 : w.heap.size + 1 < w1.heap.size := by omega)); (try (have hc1 : ∀ o, w1.cell? ⟨w.heap.size + 1, o, none⟩ = _ := fun o => hx.cells.1 _ o (by first | (simp; done) | (simp; omega) | omega))); (try (have hf1 : ∀ o, w1.frozen? ⟨w.heap.size + 1, o, none⟩ = _ := fun o => hx.cells.2 _ o (by first | (simp; done) | (simp; omega) | omega))); (try (have hq2 : w.heap.size + 2 < w1.heap.size := by omega)); (try (have hc2 : ∀ o, w1.cell? ⟨w.heap.size + 2, o, none⟩ = _ := fun o => hx.cells.1 _ o (by first | (simp; done) | (simp; omega) | omega))); (try (have hf2 : ∀ o, w1.frozen? ⟨w.heap.size + 2, o, none⟩ = _ := fun o => hx.cells.2 _ o (by first | (simp; done) | (simp; omega) | omega)))))
    go_ret2
    exact RetRow.of_nil rfl (by with_reducible (repeat (first | exact Ext.refl _ | apply Ext.drewN | apply Ext.drew | apply Ext.alloc | (refine Ext.set ?_ (by first | (simp; done) | (simp; omega) | omega) _) | (refine Ext.trans ?_ (by assumption)))))
  · obtain ⟨hl, hb, hs⟩ := vhd_iff hv
    have hc := hct_bd hv
    have hln := hI.len
    have HLM := Lib.hid hJ.len
    rw [hln] at hl hb
    have HB := Lib.hid hb
    obtain ⟨H, hH⟩ : ∃ H : Nat, hct os = H := ⟨(hct os).toNat, by omega⟩
    have HH : Hid (∀ i, i < n → (os[i]?.getD 0).toNat < H ∧ 0 ≤ os[i]?.getD 0) := fun i hi => by
      have := hand_lt hv (i := i) (by rw [hln]; exact hi)
      rw [hH] at this
      simpa using this
    have HNO : Hid (prk ns H H = false → rnc os ns = 2 ∧ rnv os ns = [] ∧ rnn os ns = 0) := fun h => by
      have h' : prm ns H = false := h
      have : rnc os ns = 2 := by unfold rnc; rw [if_pos hv, hH, Int.toNat_natCast, h']; rfl
      exact ⟨this, rnv_no this (by omega)⟩
    have HYES : Hid (prk ns H H = true → rnc os ns = 0 ∧ rnv os ns = rnk os ns n ∧ rnn os ns = n) := fun h => by
      have h' : prm ns (hct os).toNat = true := by rw [hH, Int.toNat_natCast]; exact h
      have := rnv_yes hv h'
      rw [← rnk_all, hln] at this
      exact this
    have hHb : 1 ≤ H ∧ H ≤ 4 := by omega
    have HHC := Lib.hid hH
    have HV := Lib.hid hv
    have HP0 : Hid (((m : Int) == H) = prk ns H 0) := by
      show _ = _
      unfold prk
      rw [HLM.out]
      by_cases e : m = H
      · rw [decide_eq_true ⟨e, fun h hh => absurd hh (by omega)⟩]; simp [e]
      · rw [decide_eq_false (fun h => e h.1)]; rw [beq_eq_false_iff_ne]; omega
    clear hs hb hc hln hH hv
    go_enter Try.func13, Try.ntmps13
    go_wp2_with (first | (go_at_call 43; (with_reducible refine (l14Ok_is _ _ _ os _ hI _ HV.out).mono ?_); rintro e w' ⟨rfl, rfl⟩) | (go_at_call 43; (with_reducible refine (l14Ok_is _ _ _ os _ hI _ HV.out).mono ?_); rintro e w' ⟨rfl, n, rfl⟩))
    (with_reducible refine (l14Count_any _ _ _ os _ (hI.ext (by with_reducible (repeat (first | exact Ext.refl _ | apply Ext.drewN | apply Ext.drew | apply Ext.alloc | (refine Ext.set ?_ (by first | (simp; done) | (simp; omega) | omega) _) | (refine Ext.trans ?_ (by assumption)))))) HB.out (by omega) (by omega)).mono ?_)
    rw [HHC.out]
    rintro e w1 ⟨rfl, rfl⟩
    go_wp2
    go_loopw [7, 8] (fun v i wr => ∃ k : Nat, k ≤ H ∧ i = .int .i64 k ∧ v = .bool (prk ns H k) ∧ Ext w wr) (fun _ i _ => H - (intOf i).toNat)
    case atStart => exact ⟨0, by omega, rfl, by rw [HP0.out], (by with_reducible (repeat (first | exact Ext.refl _ | apply Ext.drewN | apply Ext.drew | apply Ext.alloc | (refine Ext.set ?_ (by first | (simp; done) | (simp; omega) | omega) _) | (refine Ext.trans ?_ (by assumption)))))⟩
    case round =>
      obtain ⟨k, hk, rfl, rfl, hx⟩ := hrel
      by_cases hlk : k < H
      · have hki : (k : Int) < H := by omega
        have HS : Hid (prk ns H (k + 1) = (prk ns H k && sn ns m k)) := by show _ = _; rw [prk_succ, HLM.out]
        obtain ⟨g, hg⟩ : ∃ g, prk ns H k = g := ⟨_, rfl⟩
        obtain ⟨s, hs⟩ : ∃ s, sn ns m k = s := ⟨_, rfl⟩
        rw [hg, hs] at HS
        rw [hg]
        have HSN := Lib.hid hs
        clear hg hs
        cases g
        · go_wp2
          go_roundw
          case rel => exact ⟨k + 1, by omega, by go_num, by rw [HS.out]; rfl, hx⟩
          case measure => simp [intOf]; omega
        · go_wp2_with (first | (go_at_call 44; (with_reducible refine (l00Has_is _ m _ ns (k : Int) _ (hJ.ext hx) s HSN.out).mono ?_); rintro e w' ⟨rfl, rfl⟩))
          go_roundw
          case rel => exact ⟨k + 1, by omega, by go_num, by rw [HS.out]; rfl, hx⟩
          case measure => simp [intOf]; omega
      · obtain rfl : k = H := by omega
        cases hp : prk ns k k
        · have HR := Lib.hid (HNO.out hp)
          clear hp
          go_wp2
          go_ret2
          rw [HR.out.1, HR.out.2.1, HR.out.2.2]
          exact RetRow.of_nil rfl hx
        · have HR := Lib.hid (HYES.out hp)
          have hmk : m = k := by unfold prk at hp; have := (of_decide_eq_true hp).1; rw [HLM.out] at this; exact this
          clear hp
          have hI2 := hI.ext hx
          have hJ2 := hJ.ext hx
          have hmk1 : m ≤ k := by omega
          have hmk2 : k ≤ m := by omega
          clear hmk
          go_wp2
          obtain ⟨wo, hwo⟩ : ∃ wo : World, wo = wr := ⟨_, rfl⟩
          subst hwo
          go_loopw [9, 10] (fun v i wr => ∃ q : Nat, q ≤ n ∧ i = .int .i64 q ∧ Own wo wr v (rnk os ns q)) (fun _ i _ => n - (intOf i).toNat)
          case atStart => exact ⟨0, Nat.zero_le _, rfl, own_empty (Ext.refl _)⟩
          case round =>
            obtain ⟨q, hq, rfl, hown⟩ := hrel
            by_cases hlq : q < n
            · obtain ⟨b, off, rfl, hb, hcell⟩ := (hI2.ext hown.ext).at_ (by omega)
              obtain ⟨b2, off2, rfl, hb2, hcell2⟩ := (hJ2.ext hown.ext).at_ (by omega)
              have hqi : (q : Int) < n := by omega
              obtain ⟨h3, h4⟩ := HH.out q hlq
              have c1 := hcell q hlq
              obtain ⟨o, ho⟩ : ∃ o : Nat, os[q]?.getD 0 = o := ⟨(os[q]?.getD 0).toNat, by omega⟩
              rw [ho] at c1 h3
              rw [Int.toNat_natCast] at h3
              have c2 := hcell2 o (by omega)
              have hoi : (o : Int) < m := by omega
              have HS : Hid (rnk os ns (q + 1) = rnk os ns q ++ [ns[o]?.getD 0]) := by show _ = _; rw [rnk_succ, ho, Int.toNat_natCast]
              have hlen : (rnk os ns q).length ≤ 1000000 := by rw [rnk_len]; omega
              clear hcell hcell2 ho
              go_wp2_with (first | (at_builtin; refine app1 rfl _ _ rfl _ _ _ rfl hown rfl hlen ?_; intro v' w3 hown'))
              go_roundw
              case rel => exact ⟨q + 1, by omega, by go_num, by rw [HS.out]; exact hown'⟩
              case measure => simp [intOf]; omega
            · obtain rfl : q = n := by omega
              obtain ⟨A1, c1, rfl⟩ := hown.forms
              have HT : Hid (RetRow w 2 1 q (rnk os ns q) 0 (.returned (.tuple #[.slice A1 (rnk os ns q).length c1, .int .i64 0])) wr) := by
                refine ⟨A1, c1, by rw [rnk_len], ?_, hx.trans hown.ext⟩
                have h5 := Row.of_own hown rfl
                rw [rnk_len] at h5
                exact h5.lower hx.size
              go_wp2
              go_ret2
              rw [HR.out.1, HR.out.2.1, HR.out.2.2]
              exact HT.out
theorem Ints.grown {w w' : World} {A : Option Addr} {n : Nat} {xs : List Int} (h : Ints w A n xs) {g : Nat} (k : w.grownBy w' (some g)) (hne : ∀ a, A = some a → a.block ≠ g) : Ints w' A n xs :=
  ⟨h.len, h.small, h.bds, fun hn => by
    obtain ⟨b, off, e, hb, hc⟩ := h.at_ hn
    exact ⟨b, off, e, Nat.lt_of_lt_of_le hb k.size, fun i hi => (grown_cell k hb (hne _ e) _).trans (hc i hi)⟩⟩
set_option maxHeartbeats 1000000 in
theorem l14Count_bd (A : Option Addr) (n c : Nat) (os : List Int) (w : World) (hI : Ints w A n os) (hv : ∀ y ∈ os, -20 ≤ y ∧ y ≤ 4) :
    Calls Try.prog 32 #[.slice A n c] w fun e w' => ∃ v : Int, e = .returned (.int .i64 v) ∧ (0 ≤ v ∧ v ≤ 5) ∧ w = w' := by
  have hsm := hI.small
  have HB := Lib.hid hv
  have HL := Lib.hid hI.len
  clear hv
  go_enter Try.func32, Try.ntmps32
  go_wp2
  go_loop [3, 4] (fun s i => ∃ k : Nat, k ≤ n ∧ i = .int .i64 k ∧ ∃ v : Int, s = .int .i64 v ∧ 0 ≤ v ∧ v ≤ 5) (fun _ i => n - (intOf i).toNat)
  case atStart => exact ⟨0, by omega, rfl, 0, rfl, by omega, by omega⟩
  case round =>
    obtain ⟨k, hk, rfl, v, rfl, hv1, hv2⟩ := hrel
    by_cases hlt : k < n
    · obtain ⟨b, off, rfl, hb, hcell⟩ := hI.at_ (by omega)
      have hc := hcell k hlt
      have hbk := HB.out _ (getD_mem (xs := os) (i := k) (by rw [HL.out]; exact hlt))
      have ik : (k : Int) < n := by omega
      clear hcell
      have hcb := cmf_bd (a := v) (b := os[k]?.getD 0 + 1) (lo := -20) (hi := 5) (by omega) (by omega)
      have hcb2 : 0 ≤ cmf v (os[k]?.getD 0 + 1) := by unfold cmf; split <;> omega
      go_wp2_with (first | (go_at_call 58; (with_reducible refine (l00Max_any _ _ _).mono ?_); rintro e w' ⟨rfl, rfl⟩))
      go_round
      case rel => exact ⟨k + 1, by omega, by go_num, _, rfl, hcb2, hcb.2⟩
      case measure => simp [intOf]; omega
    · obtain rfl : k = n := by omega
      go_wp2
      go_ret
      exact ⟨v, rfl, ⟨hv1, hv2⟩, rfl⟩
set_option maxHeartbeats 4000000 in
set_option maxRecDepth 100000 in
theorem DrawRenameHands_any (A : Option Addr) (n c : Nat) (xs : List Int) (w : World) (hB : Byts w A n xs) :
    Calls Try.prog 11 #[.slice A n c] w (DrawnA w) := by
  go_enter Try.func11, Try.ntmps11
  go_wp2_with fail
  (with_reducible refine (l00From_any A n c xs _ hB).mono ?_)
  rintro e w1 ⟨g, rfl, hs1, hg⟩
  clear hg
  have hlt := hs1.lt
  go_wp2_with fail
  (with_reducible refine (l14Bent_any w w1 g A n c xs 0 hs1 (by omega)).mono ?_)
  rintro e w2 ⟨B, m, d, ys, rfl, hown2, hm, hyb, hs2, hg2⟩
  have HIY : Hid (Ints w2 B m ys) := own_ints hown2 (by omega) (fun y hy => by have := hyb y hy; omega)
  have HBN : Hid (∀ a, B = some a → a.block ≠ g) := fun a ha => by have := (World.ownsRow.lt hown2 a.block (by rw [ha]; rfl)).1; omega
  have HYB := Lib.hid hyb
  have hlt2 := hs2.lt
  have hO := own_new w2 (lo := w2.heap.size) (Nat.le_refl _)
  have hG0 := grown_new (World.grownBy.refl w2 (some g)) (.cells #[] 2)
  have hS0 := hs2.after ((Ext.refl w2).alloc (.cells #[] 2))
  clear hown2 hyb hs2
  go_wp2
  go_loopw [6, 7, 8] (fun v i _ wr => ∃ (k : Nat) (zs : List Int), k ≤ 4 ∧ i = .int .i64 k ∧ wr.ownsRow w2.heap.size 2 1 v k (zs.map (Value.int .i64)) ∧ (∀ y ∈ zs, 0 ≤ y ∧ y ≤ 3) ∧ Srd w wr g A n c xs (50 + 4 * k) ∧ w2.grownBy wr (some g)) (fun _ i _ _ => 4 - (intOf i).toNat)
  case atStart => exact ⟨0, [], by omega, rfl, hO, by simp, hS0.more (by omega), hG0⟩
  case round =>
    obtain ⟨k, zs, hk, rfl, hzo, hzb, hsr, hgr⟩ := hrel
    have hzr := hgr.size
    have HZB := Lib.hid hzb
    clear hzb
    have hIo : Ints wr B m ys := HIY.out.grown hgr HBN.out
    go_wp2_with fail
    (with_reducible refine (l14Count_bd _ _ _ ys _ hIo HYB.out).mono ?_)
    rintro e w3 ⟨v, rfl, hv, rfl⟩
    by_cases hgo : (k : Int) < v ∧ k < 4
    · obtain ⟨hg1, hg3⟩ := hgo
      have hg4 : (k : Int) < 4 := by omega
      go_wp2_with fail
      (with_reducible refine (pick_any ((k : Int) + 1) w _ g A n c xs _ hsr (by omega)).mono ?_)
      rintro e w4 ⟨x, rfl, hx, hs4, hg5⟩
      obtain ⟨q, rfl⟩ : ∃ q : Nat, x = q := ⟨x.toNat, by omega⟩
      have hqk : q ≤ k := by omega
      have hqi : (q : Int) < k + 1 := by omega
      have hki : (k : Int) < k + 1 := by omega
      have hzo4 := own_keep hzo hg5 hlt2
      have hG4 := grown_trans hgr hg5
      have hz4 := hg5.size
      clear hgr hsr hIo hg5
      have HB1 : Hid (∀ y ∈ zs ++ [(k : Int)], 0 ≤ y ∧ y ≤ 3) := app_bd HZB.out (by omega)
      have hzl : zs.length = k := by simpa using hzo4.1
      have HVB : Hid (0 ≤ (zs ++ [(k : Int)])[q]?.getD 0 ∧ (zs ++ [(k : Int)])[q]?.getD 0 ≤ 3) := getDbd HB1.out (by simp; omega)
      clear hzl
      by_cases hqe : q = k
      · subst hqe
        clear hqi
        go_wp2_with (first | (at_builtin; refine appL elInt (by omega) rfl _ _ Try.underlying24 rfl rfl (own_ext hzo4 ((Ext.refl _).alloc _)) (by simp; omega) (by omega) rfl (heap_alloc_new _ _) (ys := [_]) (by rfl) (by rfl) ?_; intro v' w5 hown5 hg6; obtain ⟨gn, cn, hvn, hn1, hn2⟩ := World.ownsRow.form hown5 (by omega); subst hvn; obtain ⟨ca, fa⟩ := own_cell hown5 (p := q) (by omega); obtain ⟨cb, fb⟩ := own_cell hown5 (p := q) (by omega)))
        go_roundw
        case rel => exact ⟨q + 1, _, by omega, by go_num, own_store (own_store hown5 q _) q _, set_bd (set_bd HB1.out HVB.out q) (by omega) q, (((hs4.after ((Ext.refl _).alloc _)).own hg6 (fun b hb => Nat.lt_of_lt_of_le hlt2 (World.ownsRow.lt hzo4 b hb).1)).put (by show g < gn; omega) _).put (by show g < gn; omega) _ |>.more (by omega), grown_put (grown_put (grown_own (grown_new hG4 _) hg6 (fun b hb => (World.ownsRow.lt hzo4 b hb).1)) (by show w2.heap.size ≤ gn; omega) _) (by show w2.heap.size ≤ gn; omega) _⟩
        case measure => simp [intOf]; omega
      · have hqe2 : ¬ k = q := fun e => hqe e.symm
        go_wp2_with (first | (at_builtin; refine appL elInt (by omega) rfl _ _ Try.underlying24 rfl rfl (own_ext hzo4 ((Ext.refl _).alloc _)) (by simp; omega) (by omega) rfl (heap_alloc_new _ _) (ys := [_]) (by rfl) (by rfl) ?_; intro v' w5 hown5 hg6; obtain ⟨gn, cn, hvn, hn1, hn2⟩ := World.ownsRow.form hown5 (by omega); subst hvn; obtain ⟨ca, fa⟩ := own_cell hown5 (p := q) (by omega); obtain ⟨cb, fb⟩ := own_cell hown5 (p := k) (by omega)))
        go_roundw
        case rel => exact ⟨k + 1, _, by omega, by go_num, own_store (own_store hown5 k _) q _, set_bd (set_bd HB1.out HVB.out k) (by omega) q, (((hs4.after ((Ext.refl _).alloc _)).own hg6 (fun b hb => Nat.lt_of_lt_of_le hlt2 (World.ownsRow.lt hzo4 b hb).1)).put (by show g < gn; omega) _).put (by show g < gn; omega) _ |>.more (by omega), grown_put (grown_put (grown_own (grown_new hG4 _) hg6 (fun b hb => (World.ownsRow.lt hzo4 b hb).1)) (by show w2.heap.size ≤ gn; omega) _) (by show w2.heap.size ≤ gn; omega) _⟩
        case measure => simp [intOf]; omega
    · by_cases hk1 : (k : Int) < v
      · have hk4 : ¬ (k : Int) < 4 := by omega
        obtain ⟨Az, cz, rfl⟩ := own_slice hzo
        by_cases hk0 : k = 0
        · omega
        · have hkp : (0 : Int) < k := by omega
          go_wp2_with fail
          (with_reducible refine (one_any 8 w _ g A n c xs _ hsr (by omega)).mono ?_)
          rintro e w4 ⟨b1, rfl, hs4, hg4⟩
          have hzo4 := own_keep hzo hg4 hlt2
          have hG4 := grown_trans hgr hg4
          cases b1
          · have HT : Hid (DrawnA w (.returned (.tuple #[.slice B m d, .slice Az k cz])) w4) := ⟨B, Az, m, d, k, cz, ys, zs, rfl, HIY.out.grown hG4 HBN.out, own_ints hzo4 (by omega) (fun y hy => by have := HZB.out y hy; omega), by omega, by omega, hs4.ext⟩
            go_wp2
            go_ret2
            exact HT.out
          · go_wp2_with fail
            (with_reducible refine (pick_any 5 w _ g A n c xs _ hs4 (by omega)).mono ?_)
            rintro e w5 ⟨x, rfl, hx, hs5, hg5⟩
            have hzo5 := own_keep hzo4 hg5 hlt2
            have hG5 := grown_trans hG4 hg5
            obtain ⟨gn, cn, hvn, hn1, hn2⟩ := World.ownsRow.form hzo5 (by omega)
            cases hvn
            obtain ⟨ca, fa⟩ := own_cell hzo5 (p := 0) (by omega)
            have HG6 := grown_put hG5 (p := ⟨gn, 0, none⟩) (by show w2.heap.size ≤ gn; omega) (.int .i64 (x - 1))
            have HS6 := hs5.put (p := ⟨gn, 0, none⟩) (by show g < gn; omega) (.int .i64 (x - 1))
            have HT : Hid (DrawnA w (.returned (.tuple #[.slice B m d, .slice (some ⟨gn, 0, none⟩) k cz])) (w5.setCell ⟨gn, 0, none⟩ (.int .i64 (x - 1)))) := ⟨B, _, m, d, k, _, ys, zs.set 0 (x - 1), rfl, HIY.out.grown HG6 HBN.out, own_ints (own_store hzo5 0 (x - 1)) (by omega) (fun y hy => by
                have := set_bd (lo := -100) (hi := 100) (v := x - 1) (fun z hz => by have := HZB.out z hz; omega) (by omega) 0 y hy
                exact this), by omega, by omega, HS6.ext⟩
            clear HG6 HS6
            go_wp2
            go_ret2
            exact HT.out
      · clear hgo
        obtain ⟨Az, cz, rfl⟩ := own_slice hzo
        by_cases hk0 : k = 0
        · subst hk0
          have HT : Hid (DrawnA w (.returned (.tuple #[.slice B m d, .slice Az 0 cz])) wr) := ⟨B, Az, m, d, 0, cz, ys, zs, rfl, hIo, own_ints hzo (by omega) (fun y hy => by have := HZB.out y hy; omega), by omega, by omega, hsr.ext⟩
          go_wp2
          go_ret2
          exact HT.out
        · have hkp : (0 : Int) < k := by omega
          go_wp2_with fail
          (with_reducible refine (one_any 8 w _ g A n c xs _ hsr (by omega)).mono ?_)
          rintro e w4 ⟨b1, rfl, hs4, hg4⟩
          have hzo4 := own_keep hzo hg4 hlt2
          have hG4 := grown_trans hgr hg4
          cases b1
          · have HT : Hid (DrawnA w (.returned (.tuple #[.slice B m d, .slice Az k cz])) w4) := ⟨B, Az, m, d, k, cz, ys, zs, rfl, HIY.out.grown hG4 HBN.out, own_ints hzo4 (by omega) (fun y hy => by have := HZB.out y hy; omega), by omega, by omega, hs4.ext⟩
            go_wp2
            go_ret2
            exact HT.out
          · go_wp2_with fail
            (with_reducible refine (pick_any 5 w _ g A n c xs _ hs4 (by omega)).mono ?_)
            rintro e w5 ⟨x, rfl, hx, hs5, hg5⟩
            have hzo5 := own_keep hzo4 hg5 hlt2
            have hG5 := grown_trans hG4 hg5
            obtain ⟨gn, cn, hvn, hn1, hn2⟩ := World.ownsRow.form hzo5 (by omega)
            cases hvn
            obtain ⟨ca, fa⟩ := own_cell hzo5 (p := 0) (by omega)
            have HG6 := grown_put hG5 (p := ⟨gn, 0, none⟩) (by show w2.heap.size ≤ gn; omega) (.int .i64 (x - 1))
            have HS6 := hs5.put (p := ⟨gn, 0, none⟩) (by show g < gn; omega) (.int .i64 (x - 1))
            have HT : Hid (DrawnA w (.returned (.tuple #[.slice B m d, .slice (some ⟨gn, 0, none⟩) k cz])) (w5.setCell ⟨gn, 0, none⟩ (.int .i64 (x - 1)))) := ⟨B, _, m, d, k, _, ys, zs.set 0 (x - 1), rfl, HIY.out.grown HG6 HBN.out, own_ints (own_store hzo5 0 (x - 1)) (by omega) (fun y hy => by
                have := set_bd (lo := -100) (hi := 100) (v := x - 1) (fun z hz => by have := HZB.out z hz; omega) (by omega) 0 y hy
                exact this), by omega, by omega, HS6.ext⟩
            clear HG6 HS6
            go_wp2
            go_ret2
            exact HT.out
end Go.Proofs.Ytdmjmnkcnohhlaa
