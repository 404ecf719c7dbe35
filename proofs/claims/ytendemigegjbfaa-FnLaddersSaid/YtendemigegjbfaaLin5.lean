/- Pictures of throws: contracts of CheckLadder, LadderThrows and ColumnOf. No condition but the stated bounds. -/
import Derived.Test.YtendemigegjbfaaLin4
namespace Go.Proofs.Ytendemigegjbfaa
set_option linter.unusedVariables false
set_option linter.unusedSimpArgs false
open Go.RowKit Go.Joins

/-- The first wrong line among m lines from j on. -/
def fwr (ls : List ByteArray) (j m : Nat) : Int := seek (fun i => !lrt ls i) 0 j m
/-- What CheckLadder gives. -/
def ckl (ls : List ByteArray) : Int := if lfm ls = true then fwr ls 0 ls.length else 0
/-- The code of a picture. -/
def lfc (ls : List ByteArray) : Int := if lfm ls = true then 0 else 7
set_option maxHeartbeats 1000000 in
theorem specCheckLadder_ret (A : Option Addr) (n c : Nat) (ls : List ByteArray) (w : World) (hI : Strs w A n ls) :
    Calls Try.prog 28 #[.slice A n c] w fun e w' => e = .returned (.tuple #[.int .i64 (ckl ls), .int .i64 (lfc ls)]) ∧ Ext w w' := by
  have HL := Lib.hid hI.len
  have hsm := hI.small
  unfold ckl lfc
  cases hf : lfm ls
  · rw [if_neg (by simp), if_neg (by simp)]
    have HF := Lib.hid hf
    clear hf
    go_enter Try.func28, Try.ntmps28
    go_wp2_with (first | (go_at_call 48; (with_reducible refine (l18Form_is _ _ _ ls _ hI _ HF.out).mono ?_); rintro e w' ⟨rfl, rfl⟩))
    go_ret2
    exact ⟨rfl, Ext.refl _⟩
  · rw [if_pos rfl, if_pos rfl]
    have HF := Lib.hid hf
    have h60 : n ≤ 60 := by have := (lfm_iff hf).2; rwa [hI.len] at this
    have HT0 : Hid (fwr ls 0 ls.length = fwr ls 0 n) := by show _ = _; rw [HL.out]
    clear hf
    go_enter Try.func28, Try.ntmps28
    go_wp2_with (first | (go_at_call 48; (with_reducible refine (l18Form_is _ _ _ ls _ hI _ HF.out).mono ?_); rintro e w' ⟨rfl, rfl⟩))
    go_loop [4] (fun i => ∃ k : Nat, k ≤ n ∧ i = .int .i64 k ∧ fwr ls 0 ls.length = fwr ls k (n - k)) (fun i => n - (intOf i).toNat)
    case atStart => exact ⟨0, by omega, rfl, HT0.out⟩
    case round =>
      obtain ⟨k, hk, rfl, hq⟩ := hrel
      have HQ := Lib.hid hq
      clear hq
      by_cases hlt : k < n
      · have hki : (k : Int) < n := by omega
        cases hv : lrt ls k
        · have HR : Hid (fwr ls 0 ls.length = (k : Int)) := by show _ = _; rw [HQ.out]; unfold fwr; rw [seek_hit (by omega) (by show (!lrt ls k) = true; rw [hv]; rfl)]; omega
          have HV := Lib.hid hv
          clear hv
          go_wp2_with (first | (go_at_call 62; (with_reducible refine (l18Line_is _ _ _ ls k _ hI HF hlt _ HV.out).mono ?_); rintro e w' ⟨rfl, rfl⟩))
          go_ret2
          rw [HR.out]
          exact ⟨rfl, Ext.refl _⟩
        · have HR : Hid (fwr ls 0 ls.length = fwr ls (k + 1) (n - (k + 1))) := by show _ = _; rw [HQ.out]; unfold fwr; rw [seek_miss (by show (!lrt ls k) = false; rw [hv]; rfl) (by omega)]; rw [show n - k - 1 = n - (k + 1) by omega]
          have HV := Lib.hid hv
          clear hv
          go_wp2_with (first | (go_at_call 62; (with_reducible refine (l18Line_is _ _ _ ls k _ hI HF hlt _ HV.out).mono ?_); rintro e w' ⟨rfl, rfl⟩))
          go_round
          case rel => exact ⟨k + 1, by omega, by go_num, HR.out⟩
          case measure => simp [intOf]; omega
      · obtain rfl : k = n := by omega
        have HR : Hid (fwr ls 0 ls.length = -1) := by show _ = _; rw [HQ.out, Nat.sub_self]; rfl
        go_wp2
        go_ret2
        rw [HR.out]
        exact ⟨rfl, Ext.refl _⟩
set_option maxHeartbeats 1000000 in
theorem implCheckLadder_ret (A : Option Addr) (n c : Nat) (ls : List ByteArray) (w : World) (hI : Strs w A n ls) (hcap : n ≤ c) :
    Calls Try.prog 27 #[.slice A n c] w fun e w' => e = .returned (.tuple #[.int .i64 (ckl ls), .int .i64 (lfc ls)]) ∧ Ext w w' := by
  have HL := Lib.hid hI.len
  have hsm := hI.small
  unfold ckl lfc
  cases hf : lfm ls
  · rw [if_neg (by simp), if_neg (by simp)]
    have HF := Lib.hid hf
    clear hf
    go_enter Try.func27, Try.ntmps27
    go_wp2_with (first | (go_at_call 46; (with_reducible refine (isPicture_is _ _ _ ls _ hI _ HF.out).mono ?_); rintro e w' ⟨rfl, rfl⟩))
    go_ret2
    exact ⟨rfl, Ext.refl _⟩
  · rw [if_pos rfl, if_pos rfl]
    have HF := Lib.hid hf
    have h60 : n ≤ 60 := by have := (lfm_iff hf).2; rwa [hI.len] at this
    have HT0 : Hid (fwr ls 0 ls.length = fwr ls 0 n) := by show _ = _; rw [HL.out]
    clear hf
    go_enter Try.func27, Try.ntmps27
    go_wp2_with (first | (go_at_call 46; (with_reducible refine (isPicture_is _ _ _ ls _ hI _ HF.out).mono ?_); rintro e w' ⟨rfl, rfl⟩))
    go_loopw [10, 4] (fun i _ wr => ∃ k : Nat, k ≤ n ∧ i = .int .i64 k ∧ fwr ls 0 ls.length = fwr ls k (n - k) ∧ Ext w wr) (fun i _ _ => n - (intOf i).toNat)
    case atStart => exact ⟨0, by omega, rfl, HT0.out, Ext.refl _⟩
    case round =>
      obtain ⟨k, hk, rfl, hq, hx⟩ := hrel
      have HQ := Lib.hid hq
      clear hq
      by_cases hlt : k < n
      · have hki : (k : Int) < n := by omega
        cases hv : lrt ls k
        · have HR : Hid (fwr ls 0 ls.length = (k : Int)) := by show _ = _; rw [HQ.out]; unfold fwr; rw [seek_hit (by omega) (by show (!lrt ls k) = true; rw [hv]; rfl)]; omega
          have HV := Lib.hid hv
          clear hv
          go_wp2_with (first | (go_at_call 61; (with_reducible refine (isRight_is _ _ _ ls k _ (hI.ext (by with_reducible (repeat (first | exact Ext.refl _ | apply Ext.drewN | apply Ext.drew | apply Ext.alloc | (refine Ext.set ?_ (by first | (simp; done) | (simp; omega) | omega) _) | (refine Ext.trans ?_ (by assumption)))))) HF hlt hcap _ HV.out).mono ?_); rintro e w2 ⟨rfl, hx2⟩))
          go_ret2
          rw [HR.out]
          exact ⟨rfl, hx.trans hx2⟩
        · have HR : Hid (fwr ls 0 ls.length = fwr ls (k + 1) (n - (k + 1))) := by show _ = _; rw [HQ.out]; unfold fwr; rw [seek_miss (by show (!lrt ls k) = false; rw [hv]; rfl) (by omega)]; rw [show n - k - 1 = n - (k + 1) by omega]
          have HV := Lib.hid hv
          clear hv
          go_wp2_with (first | (go_at_call 61; (with_reducible refine (isRight_is _ _ _ ls k _ (hI.ext (by with_reducible (repeat (first | exact Ext.refl _ | apply Ext.drewN | apply Ext.drew | apply Ext.alloc | (refine Ext.set ?_ (by first | (simp; done) | (simp; omega) | omega) _) | (refine Ext.trans ?_ (by assumption)))))) HF hlt hcap _ HV.out).mono ?_); rintro e w2 ⟨rfl, hx2⟩))
          go_roundw
          case rel => exact ⟨k + 1, by omega, by go_num, HR.out, hx.trans hx2⟩
          case measure => simp [intOf]; omega
      · obtain rfl : k = n := by omega
        have HR : Hid (fwr ls 0 ls.length = -1) := by show _ = _; rw [HQ.out, Nat.sub_self]; rfl
        go_wp2
        go_ret2
        rw [HR.out]
        exact ⟨rfl, hx⟩
/-- The throws told by the first k lines. -/
def tll (ls : List ByteArray) (k : Nat) : List Int := (List.range k).map (told ls)
theorem tll_succ (ls : List ByteArray) (k : Nat) : tll ls (k + 1) = tll ls k ++ [told ls k] := by simp [tll, List.range_succ]
def tls (ls : List ByteArray) : List Int := if lfm ls = true then tll ls ls.length else []
def tln (ls : List ByteArray) : Nat := if lfm ls = true then ls.length else 0
theorem tls_bd (ls : List ByteArray) : tln ls ≤ 1048576 ∧ ∀ y ∈ tls ls, -9223372036854775808 ≤ y ∧ y ≤ 9223372036854775807 := by
  unfold tln tls
  split
  · rename_i h
    have h60 := (lfm_iff h).2
    refine ⟨by omega, fun y hy => ?_⟩
    simp only [tll, List.mem_map, List.mem_range] at hy
    obtain ⟨i, hi, rfl⟩ := hy
    have := told_bd ls hi
    omega
  · exact ⟨by omega, by simp⟩
set_option maxHeartbeats 1000000 in
theorem specLadderThrows_ret (A : Option Addr) (n c : Nat) (ls : List ByteArray) (w : World) (hI : Strs w A n ls) :
    Calls Try.prog 30 #[.slice A n c] w (RetRow w 2 1 (tln ls) (tls ls) (lfc ls)) := by
  have HL := Lib.hid hI.len
  have hsm := hI.small
  unfold tln tls lfc
  cases hf : lfm ls
  · rw [if_neg (by simp), if_neg (by simp), if_neg (by simp)]
    have HF := Lib.hid hf
    clear hf
    go_enter Try.func30, Try.ntmps30
    go_wp2_with (first | (go_at_call 48; (with_reducible refine (l18Form_is _ _ _ ls _ hI _ HF.out).mono ?_); rintro e w' ⟨rfl, rfl⟩))
    go_ret2
    exact RetRow.of_nil rfl (by with_reducible (repeat (first | exact Ext.refl _ | apply Ext.drewN | apply Ext.drew | apply Ext.alloc | (refine Ext.set ?_ (by first | (simp; done) | (simp; omega) | omega) _) | (refine Ext.trans ?_ (by assumption)))))
  · rw [if_pos rfl, if_pos rfl, if_pos rfl, hI.len]
    have HF := Lib.hid hf
    have h60 : n ≤ 60 := by have := (lfm_iff hf).2; rwa [hI.len] at this
    clear hf
    go_enter Try.func30, Try.ntmps30
    go_wp2_with (first | (go_at_call 48; (with_reducible refine (l18Form_is _ _ _ ls _ hI _ HF.out).mono ?_); rintro e w' ⟨rfl, rfl⟩))
    go_loopw [4, 5] (fun v i wr => ∃ k : Nat, k ≤ n ∧ i = .int .i64 k ∧ OwnR 2 1 w wr v k (tll ls k)) (fun _ i _ => n - (intOf i).toNat)
    case atStart => exact ⟨0, by omega, rfl, ownR_empty (Ext.refl _) _ _⟩
    case round =>
      obtain ⟨k, hk, rfl, hown⟩ := hrel
      by_cases hlt : k < n
      · have hki : (k : Int) < n := by omega
        have HA := Lib.hid (tll_succ ls k)
        obtain ⟨t, ht⟩ : ∃ t, told ls k = t := ⟨_, rfl⟩
        have HT := Lib.hid ht
        rw [ht] at HA
        clear ht
        have hx := hown.ext
        go_wp2_with (first | (go_at_call 64; (with_reducible refine (l18Throw_is _ _ _ ls k _ (hI.ext (by with_reducible (repeat (first | exact Ext.refl _ | apply Ext.drewN | apply Ext.drew | apply Ext.alloc | (refine Ext.set ?_ (by first | (simp; done) | (simp; omega) | omega) _) | (refine Ext.trans ?_ (by assumption)))))) HF hlt _ HT).mono ?_); rintro e w' ⟨rfl, rfl⟩) | (at_builtin; refine appM elInt (by omega) rfl _ _ Try.underlying24 rfl rfl (hown.trans (by with_reducible (repeat (first | exact Ext.refl _ | apply Ext.drewN | apply Ext.drew | apply Ext.alloc | (refine Ext.set ?_ (by first | (simp; done) | (simp; omega) | omega) _) | (refine Ext.trans ?_ (by assumption)))))) (by omega) rfl (heap_alloc_new _ _) (ys := [t]) (by rfl) (by rfl) ?_; intro v' w3 hown'))
        go_roundw
        case rel => exact ⟨k + 1, by omega, by go_num, by rw [HA.out]; exact hown'⟩
        case measure => simp [intOf]; omega
      · obtain rfl : k = n := by omega
        obtain ⟨A3, c3, rfl⟩ := hown.forms
        have HT : Hid (RetRow w 2 1 k (tll ls k) 0 (.returned (.tuple #[.slice A3 k c3, .int .i64 0])) wr) := RetRow.of_ownR rfl hown
        go_wp2
        go_ret2
        exact HT.out
set_option maxHeartbeats 1000000 in
theorem implLadderThrows_ret (A : Option Addr) (n c : Nat) (ls : List ByteArray) (w : World) (hI : Strs w A n ls) :
    Calls Try.prog 29 #[.slice A n c] w (RetRow w 2 1 (tln ls) (tls ls) (lfc ls)) := by
  have HL := Lib.hid hI.len
  have hsm := hI.small
  unfold tln tls lfc
  cases hf : lfm ls
  · rw [if_neg (by simp), if_neg (by simp), if_neg (by simp)]
    have HF := Lib.hid hf
    clear hf
    go_enter Try.func29, Try.ntmps29
    go_wp2_with (first | (go_at_call 46; (with_reducible refine (isPicture_is _ _ _ ls _ hI _ HF.out).mono ?_); rintro e w' ⟨rfl, rfl⟩))
    go_ret2
    exact RetRow.of_nil rfl (by with_reducible (repeat (first | exact Ext.refl _ | apply Ext.drewN | apply Ext.drew | apply Ext.alloc | (refine Ext.set ?_ (by first | (simp; done) | (simp; omega) | omega) _) | (refine Ext.trans ?_ (by assumption)))))
  · rw [if_pos rfl, if_pos rfl, if_pos rfl, hI.len]
    have HF := Lib.hid hf
    have h60 : n ≤ 60 := by have := (lfm_iff hf).2; rwa [hI.len] at this
    clear hf
    go_enter Try.func29, Try.ntmps29
    go_wp2_with (first | (go_at_call 46; (with_reducible refine (isPicture_is _ _ _ ls _ hI _ HF.out).mono ?_); rintro e w' ⟨rfl, rfl⟩))
    go_loopw [4, 12, 5] (fun v i _ wr => ∃ k : Nat, k ≤ n ∧ i = .int .i64 k ∧ OwnR 2 1 w wr v k (tll ls k)) (fun _ i _ _ => n - (intOf i).toNat)
    case atStart => exact ⟨0, by omega, rfl, ownR_empty (Ext.refl _) _ _⟩
    case round =>
      obtain ⟨k, hk, rfl, hown⟩ := hrel
      by_cases hlt : k < n
      · have hki : (k : Int) < n := by omega
        have HA := Lib.hid (tll_succ ls k)
        obtain ⟨t, ht⟩ : ∃ t, told ls k = t := ⟨_, rfl⟩
        have HT := Lib.hid ht
        rw [ht] at HA
        clear ht
        have hx := hown.ext
        go_wp2_with (first | (go_at_call 63; (with_reducible refine (toldThrow_is _ _ _ ls k _ (hI.ext (by with_reducible (repeat (first | exact Ext.refl _ | apply Ext.drewN | apply Ext.drew | apply Ext.alloc | (refine Ext.set ?_ (by first | (simp; done) | (simp; omega) | omega) _) | (refine Ext.trans ?_ (by assumption)))))) HF hlt _ HT).mono ?_); rintro e w2 ⟨rfl, hx2⟩) | (at_builtin; refine appM elInt (by omega) rfl _ _ Try.underlying24 rfl rfl (hown.trans (by with_reducible (repeat (first | exact Ext.refl _ | apply Ext.drewN | apply Ext.drew | apply Ext.alloc | (refine Ext.set ?_ (by first | (simp; done) | (simp; omega) | omega) _) | (refine Ext.trans ?_ (by assumption)))))) (by omega) rfl (heap_alloc_new _ _) (ys := [t]) (by rfl) (by rfl) ?_; intro v' w3 hown'))
        go_roundw
        case rel => exact ⟨k + 1, by omega, by go_num, by rw [HA.out]; exact hown'⟩
        case measure => simp [intOf]; omega
      · obtain rfl : k = n := by omega
        obtain ⟨A3, c3, rfl⟩ := hown.forms
        have HT : Hid (RetRow w 2 1 k (tll ls k) 0 (.returned (.tuple #[.slice A3 k c3, .int .i64 0])) wr) := RetRow.of_ownR rfl hown
        go_wp2
        go_ret2
        exact HT.out
end Go.Proofs.Ytendemigegjbfaa
