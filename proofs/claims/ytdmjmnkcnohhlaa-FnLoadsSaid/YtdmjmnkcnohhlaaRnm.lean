/- Renamed hands: contracts of f6ints, RenameHands by the program and the reference, and the draw of both. No condition but the stated bounds. -/
import Derived.Test.YtdmjmnkcnohhlaaPld
import Derived.Test.YtdmjmnkcnohhlaaDrh
namespace Go.Proofs.Ytdmjmnkcnohhlaa
set_option linter.unusedVariables false
set_option linter.unusedSimpArgs false
open Go.RowKit Go.Joins

theorem f6ints_same (A B : Option Addr) (n c d : Nat) (xs : List Int) (w : World) (hI : Ints w A n xs) (hJ : Ints w B n xs) :
    Calls Try.prog 14 #[.slice A n c, .slice B n d] w (fun e w' => e = .returned (.bool true) ∧ Qt w w') := by
  have hs := hI.small
  go_enter Try.func14, Try.ntmps14
  go_wp2
  go_loopw [5] (fun i wr => ∃ k : Nat, k ≤ n ∧ i = .int .i64 k ∧ Qt w wr) (fun i _ => n - (intOf i).toNat)
  case atStart => exact ⟨0, Nat.zero_le _, rfl, Qt.refl _⟩
  case round =>
    obtain ⟨k, hk, rfl, m, rfl⟩ := hrel
    by_cases hlt : k < n
    · obtain ⟨b, off, hA, hb, hcell⟩ := hI.at_ (by omega)
      obtain ⟨b2, off2, hB, hb2, hcell2⟩ := hJ.at_ (by omega)
      subst hA hB
      have c1 := hcell k hlt
      have c2 := hcell2 k hlt
      have i1 : (k : Int) < n := by omega
      clear hcell hcell2
      go_wp2
      go_quiet (fail)
      go_wp2
      go_roundw
      case rel => exact ⟨k + 1, by omega, by go_num, (by first | exact ⟨_, rfl⟩ | exact ⟨_, World.drewN_drewN _ _ _⟩)⟩
      case measure => simp [intOf]; omega
    · obtain rfl : k = n := by omega
      go_wp2
      go_ret
      exact ⟨rfl, (by first | exact ⟨_, rfl⟩ | exact ⟨_, World.drewN_drewN _ _ _⟩)⟩
/-- The code and the list of RenameHands. -/
def rnc (os ns : List Int) : Int := if vhd os then (if prm ns (hct os).toNat then 0 else 2) else 1
def rnv (os ns : List Int) : List Int := if rnc os ns = 0 then rnm os ns else []
def rnn (os ns : List Int) : Nat := if rnc os ns = 0 then os.length else 0
theorem rnc_zero {os ns : List Int} (h : rnc os ns = 0) : vhd os = true ∧ prm ns (hct os).toNat = true := by
  unfold rnc at h
  split at h
  · split at h
    · exact ⟨by assumption, by assumption⟩
    · omega
  · omega
/-- The first k names. -/
def rnk (os ns : List Int) (k : Nat) : List Int := (List.range k).map (fun i => ns[(os[i]?.getD 0).toNat]?.getD 0)
theorem rnk_len (os ns : List Int) (k : Nat) : (rnk os ns k).length = k := by simp [rnk]
theorem rnk_succ (os ns : List Int) (k : Nat) : rnk os ns (k + 1) = rnk os ns k ++ [ns[(os[k]?.getD 0).toNat]?.getD 0] := by simp [rnk, List.range_succ]
theorem rnk_all (os ns : List Int) : rnk os ns os.length = rnm os ns := by
  apply List.ext_getElem
  · simp [rnk, rnm]
  · intro i h1 h2
    have hi : i < os.length := by simpa [rnk] using h1
    simp [rnk, rnm, hi]
theorem hand_lt {os : List Int} (hv : vhd os = true) {i : Nat} (hi : i < os.length) : (os[i]?.getD 0).toNat < (hct os).toNat ∧ 0 ≤ os[i]?.getD 0 := by
  have h1 := hig_ge os hi
  have h2 := (vhd_iff hv).2.1 i hi
  unfold hct
  omega
theorem rnv_yes {os ns : List Int} (hv : vhd os = true) (hp : prm ns (hct os).toNat = true) : rnc os ns = 0 ∧ rnv os ns = rnm os ns ∧ rnn os ns = os.length := by
  have : rnc os ns = 0 := by unfold rnc; rw [if_pos hv, if_pos hp]
  exact ⟨this, by unfold rnv; rw [if_pos this], by unfold rnn; rw [if_pos this]⟩
theorem rnv_no {os ns : List Int} {r : Int} (h : rnc os ns = r) (hr : r ≠ 0) : rnv os ns = [] ∧ rnn os ns = 0 :=
  ⟨by unfold rnv; rw [if_neg (by omega)], by unfold rnn; rw [if_neg (by omega)]⟩
theorem rnm_bd {os ns : List Int} (hv : vhd os = true) (hp : prm ns (hct os).toNat = true) : ∀ y ∈ rnm os ns, 0 ≤ y ∧ y ≤ 3 := by
  intro y hy
  obtain ⟨i, hi, rfl⟩ := mem_getD hy
  rw [rnm_len] at hi
  rw [rnm_get hi]
  have := (prm_iff.1 hp).2.1 _ (hand_lt hv hi).1
  have := hct_bd hv
  omega
set_option maxHeartbeats 4000000 in
theorem implRename_ret (A : Option Addr) (n c : Nat) (os : List Int) (B : Option Addr) (m d : Nat) (ns : List Int) (w : World) (hI : Ints w A n os) (hJ : Ints w B m ns) :
    Calls Try.prog 12 #[.slice A n c, .slice B m d] w (RetRow w 2 1 (rnn os ns) (rnv os ns) (rnc os ns)) := by
  have hsm := hJ.small
  cases hv : vhd os
  · have h1 : rnc os ns = 1 := by unfold rnc; rw [hv]; rfl
    rw [(rnv_no h1 (by omega)).1, (rnv_no h1 (by omega)).2, h1]
    go_enter Try.func12, Try.ntmps12
    go_wp2_with fail
    (with_reducible refine (ValidHands_is _ _ _ os _ (hI.ext (by with_reducible (repeat (first | exact Ext.refl _ | apply Ext.drewN | apply Ext.drew | apply Ext.alloc | (refine Ext.set ?_ (by first | (simp; done) | (simp; omega) | omega) _) | (refine Ext.trans ?_ (by assumption)))))) _ hv).mono ?_)
    rintro e w1 ⟨rfl, hx⟩
    go_wp2
    go_ret2
    exact RetRow.of_nil rfl (by with_reducible (repeat (first | exact Ext.refl _ | apply Ext.drewN | apply Ext.drew | apply Ext.alloc | (refine Ext.set ?_ (by first | (simp; done) | (simp; omega) | omega) _) | (refine Ext.trans ?_ (by assumption)))))
  · obtain ⟨hl, hb, hs⟩ := vhd_iff hv
    have hc := hct_bd hv
    have hln := hI.len
    have HLM := Lib.hid hJ.len
    rw [hln] at hl hb
    have HB := Lib.hid hb
    have HLN := Lib.hid hln
    obtain ⟨H, hH⟩ : ∃ H : Nat, hct os = H := ⟨(hct os).toNat, by omega⟩
    have HH : Hid (∀ i, i < n → (os[i]?.getD 0).toNat < H ∧ 0 ≤ os[i]?.getD 0) := fun i hi => by
      have := hand_lt hv (i := i) (by rw [hln]; exact hi)
      rw [hH] at this
      simpa using this
    have HNO : Hid (prm ns H = false → rnc os ns = 2 ∧ rnv os ns = [] ∧ rnn os ns = 0) := fun h => by
      have : rnc os ns = 2 := by unfold rnc; rw [if_pos hv, hH, Int.toNat_natCast, h]; rfl
      exact ⟨this, rnv_no this (by omega)⟩
    have HYES : Hid (prm ns H = true → rnc os ns = 0 ∧ rnv os ns = rnk os ns n ∧ rnn os ns = n) := fun h => by
      have h' : prm ns (hct os).toNat = true := by rw [hH, Int.toNat_natCast]; exact h
      have := rnv_yes hv h'
      rw [← rnk_all, hln] at this
      exact this
    have hHb : 1 ≤ H ∧ H ≤ 4 := by omega
    have HHC := Lib.hid hH
    have HV := Lib.hid hv
    clear hs hb hc hln hH hv
    go_enter Try.func12, Try.ntmps12
    go_wp2_with fail
    (with_reducible refine (ValidHands_is _ _ _ os _ (hI.ext (by with_reducible (repeat (first | exact Ext.refl _ | apply Ext.drewN | apply Ext.drew | apply Ext.alloc | (refine Ext.set ?_ (by first | (simp; done) | (simp; omega) | omega) _) | (refine Ext.trans ?_ (by assumption)))))) _ HV.out).mono ?_)
    rintro e w1 ⟨rfl, hx1⟩
    have hI1 := hI.ext hx1
    have hJ1 := hJ.ext hx1
    go_wp2_with fail
    (with_reducible refine (handCount_any _ _ _ os _ hI1 HB.out (by omega)).mono ?_)
    rw [HHC.out]
    rintro e w' ⟨rfl, rfl⟩
    go_wp2
    go_loopw [21, 9] (fun i _ wr => ∃ k : Nat, k ≤ m ∧ i = .int .i64 k ∧ SeenB w1 wr ns k ∧ (∀ i, i < k → 0 ≤ ns[i]?.getD 0 ∧ ns[i]?.getD 0 < H) ∧ (∀ i j, i < j → j < k → ns[i]?.getD 0 ≠ ns[j]?.getD 0)) (fun i _ _ => m - (intOf i).toNat)
    case atStart =>
      refine ⟨0, Nat.zero_le _, rfl, ⟨_, heap_alloc_new _ _, rfl, fun h hh => ?_, (Ext.refl _).alloc _⟩, fun i h => absurd h (by omega), fun i j _ h => absurd h (by omega)⟩
      rw [sn_zero]
      rcases (by omega : h = 0 ∨ h = 1 ∨ h = 2 ∨ h = 3) with rfl | rfl | rfl | rfl <;> rfl
    case round =>
      obtain ⟨k, hk, rfl, hseen, hin, hdf⟩ := hrel
      have hxw : Ext w1 wr := by obtain ⟨_, _, _, _, h⟩ := hseen; exact h
      have HIN := Lib.hid hin
      have HDF := Lib.hid hdf
      clear hin hdf
      by_cases hlt : k < m
      · obtain ⟨b, off, rfl, hb, hcell⟩ := (hJ1.ext hxw).at_ (by omega)
        have hc := hcell k hlt
        have hki : (k : Int) < m := by omega
        clear hcell
        obtain ⟨y, hy⟩ : ∃ y, ns[k]?.getD 0 = y := ⟨_, rfl⟩
        have HY := Lib.hid hy
        rw [hy] at hc
        clear hy
        cases h1 : btw y 0 ((H : Int) - 1)
        · have HR := Lib.hid (HNO.out (by
            rw [Bool.eq_false_iff]
            intro hp
            have hk' : k < H := by have := (prm_iff.1 hp).1; rw [HLM.out] at this; omega
            have := (prm_iff.1 hp).2.1 k hk'
            rw [HY.out] at this
            rw [btw_iff.2 (by omega)] at h1
            cases h1))
          rw [HR.out.1, HR.out.2.1, HR.out.2.2]
          have H1 := Lib.hid h1
          clear h1
          go_wp2_with (first | (go_at_call 42; (with_reducible refine (between_is _ _ _ _ H1.out _).mono ?_); rintro e w' ⟨rfl, rfl⟩))
          go_ret2
          exact RetRow.of_nil rfl (hx1.trans hxw)
        · have hyb := btw_iff.1 h1
          obtain ⟨o, rfl⟩ : ∃ o : Nat, y = o := ⟨y.toNat, by omega⟩
          have ho4 : o < 4 := by omega
          have hoi : (o : Int) < 4 := by omega
          have H1 := Lib.hid h1
          clear h1
          obtain ⟨hc2, hf2⟩ := hseen.cell ho4
          cases h2 : sn ns k o
          · have HST := Lib.hid (hseen.store HY.out ho4)
            have HIN2 : Hid (∀ i, i < k + 1 → 0 ≤ ns[i]?.getD 0 ∧ ns[i]?.getD 0 < H) := fun i hi => by
              by_cases e : i = k
              · rw [e, HY.out]; omega
              · exact HIN.out i (by omega)
            have HDF2 : Hid (∀ i j, i < j → j < k + 1 → ns[i]?.getD 0 ≠ ns[j]?.getD 0) := fun i j hij hj => by
              by_cases e : j = k
              · subst e
                rw [HY.out]
                intro e2
                unfold sn at h2
                exact of_decide_eq_false h2 ⟨i, hij, e2⟩
              · exact HDF.out i j hij (by omega)
            rw [h2] at hc2
            clear h2
            go_wp2_with (first | (go_at_call 42; (with_reducible refine (between_is _ _ _ _ H1.out _).mono ?_); rintro e w' ⟨rfl, rfl⟩))
            go_roundw
            case rel => exact ⟨k + 1, by omega, by go_num, HST.out, HIN2.out, HDF2.out⟩
            case measure => simp [intOf]; omega
          · have HR := Lib.hid (HNO.out (by
              rw [Bool.eq_false_iff]
              intro hp
              unfold sn at h2
              obtain ⟨i, hi, e⟩ := of_decide_eq_true h2
              have hk' : k < H := by have := (prm_iff.1 hp).1; rw [HLM.out] at this; omega
              exact (prm_iff.1 hp).2.2 i k hi hk' (by rw [e, HY.out])))
            rw [HR.out.1, HR.out.2.1, HR.out.2.2]
            rw [h2] at hc2
            clear h2
            go_wp2_with (first | (go_at_call 42; (with_reducible refine (between_is _ _ _ _ H1.out _).mono ?_); rintro e w' ⟨rfl, rfl⟩))
            go_ret2
            exact RetRow.of_nil rfl (hx1.trans hxw)
      · obtain rfl : k = m := by omega
        clear hseen
        by_cases hmH : k = H
        · have HP : Hid (prm ns H = true) := prm_iff.2 ⟨by rw [HLM.out]; exact hmH, fun i hi => HIN.out i (by omega), fun i j h1 h2 => HDF.out i j h1 (by omega)⟩
          have HR := Lib.hid (HYES.out HP.out)
          rw [HR.out.1, HR.out.2.1, HR.out.2.2]
          have hI2 := hI1.ext hxw
          have hJ2 := hJ1.ext hxw
          subst hmH
          go_wp2
          obtain ⟨wo, hwo⟩ : ∃ wo : World, wo = wr := ⟨_, rfl⟩
          subst hwo
          go_loopw [10, 45, 12] (fun v i _ wr => ∃ q : Nat, q ≤ n ∧ i = .int .i64 q ∧ Own wo wr v (rnk os ns q)) (fun _ i _ _ => n - (intOf i).toNat)
          case atStart => exact ⟨0, Nat.zero_le _, rfl, own_empty (Ext.refl _)⟩
          case round =>
            obtain ⟨q, hq, rfl, hown⟩ := hrel
            by_cases hlq : q < n
            · obtain ⟨b, off, rfl, hb, hcell⟩ := (hI2.ext hown.ext).at_ (by omega)
              obtain ⟨b2, off2, rfl, hb2, hcell2⟩ := (hJ2.ext hown.ext).at_ (by omega)
              have hqi : (q : Int) < n := by omega
              obtain ⟨h3, h4⟩ := HH.out q hlq
              have c1 := hcell q hlq
              obtain ⟨o, ho⟩ : ∃ o : Nat, os[q]?.getD 0 = o := ⟨(os[q]?.getD 0).toNat, by omega⟩
              rw [ho] at c1 h3
              rw [Int.toNat_natCast] at h3
              have c2 := hcell2 o h3
              have hoi : (o : Int) < k := by omega
              have HS : Hid (rnk os ns (q + 1) = rnk os ns q ++ [ns[o]?.getD 0]) := by show _ = _; rw [rnk_succ, ho, Int.toNat_natCast]
              have hlen : (rnk os ns q).length ≤ 1000000 := by rw [rnk_len]; omega
              clear hcell hcell2 ho
              go_wp2_with (first | (at_builtin; refine app1 rfl _ _ rfl _ _ _ rfl hown rfl hlen ?_; intro v' w3 hown'))
              go_roundw
              case rel => exact ⟨q + 1, by omega, by go_num, by rw [HS.out]; exact hown'⟩
              case measure => simp [intOf]; omega
            · obtain rfl : q = n := by omega
              obtain ⟨A1, c1, rfl⟩ := hown.forms
              have HT : Hid (RetRow w 2 1 q (rnk os ns q) 0 (.returned (.tuple #[.slice A1 (rnk os ns q).length c1, .int .i64 0])) wr) := by
                have hxo : Ext w wo := hx1.trans hxw
                refine ⟨A1, c1, by rw [rnk_len], ?_, hxo.trans hown.ext⟩
                have h5 := Row.of_own hown rfl
                rw [rnk_len] at h5
                exact h5.lower hxo.size
              go_wp2
              go_ret2
              rw [HR.out.1, HR.out.2.1, HR.out.2.2]
              exact HT.out
        · have HR := Lib.hid (HNO.out (by rw [Bool.eq_false_iff]; intro hp; have := (prm_iff.1 hp).1; rw [HLM.out] at this; exact hmH this))
          rw [HR.out.1, HR.out.2.1, HR.out.2.2]
          have hmi : ¬ (k : Int) = H := by omega
          go_wp2
          go_ret2
          rw [HR.out.1, HR.out.2.1, HR.out.2.2]
          exact RetRow.of_nil rfl (hx1.trans hxw)
end Go.Proofs.Ytdmjmnkcnohhlaa
