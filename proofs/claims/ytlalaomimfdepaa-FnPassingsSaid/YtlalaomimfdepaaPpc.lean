/- FnPassings: the contracts in one form, and the plain laws put together. No condition but the stated bounds. -/
import Derived.Test.YtlalaomimfdepaaPsd8
import Derived.Test.YtlalaomimfdepaaPpb
import Derived.Test.YtlalaomimfdepaaThr8
import Derived.Test.YtlalaomimfdepaaThrA
namespace Go.Proofs.Ytlalaomimfdepaa
set_option linter.unusedVariables false
set_option linter.unusedSimpArgs false
open Go.ChangeShapes Go.WideShapes Go.ChangeAt Go.RowKit Go.Joins Go.Deep

/-- What hands back a passing pattern that is read, and a code. -/
def RetTL (w : World) (ts us : List (Int × Bool)) (r : Int) (e : Ending) (w' : World) : Prop :=
  ∃ A c B d, e = .returned (.tuple #[.agg #[.slice A ts.length c, .slice B us.length d], .int .i64 r]) ∧ Thr w' A ts.length ts ∧ Thr w' B us.length us ∧ Ext w w'
theorem retTL_of {w w' : World} {ts us : List (Int × Bool)} {r : Int} {e : Ending} (h : RetTh w ts us r e w') : RetTL w ts us r e w' := by
  obtain ⟨A, n, c, B, m, d, rfl, h1, h2, h3⟩ := h
  have e1 := h1.len
  have e2 := h2.len
  subst e1 e2
  exact ⟨A, c, B, d, rfl, h1, h2, h3⟩
theorem retTL_pc {w w' : World} {ts us : List (Int × Bool)} {r : Int} {e : Ending} (hb : ts.length ≤ 1048576 ∧ us.length ≤ 1048576) (h : RetPC w ts us r e w') : RetTL w ts us r e w' := by
  obtain ⟨A, n, c, B, m, d, rfl, hp, h3⟩ := h
  have e1 := hp.a.len
  have e2 := hp.b.len
  subst e1 e2
  exact ⟨A, c, B, d, rfl, hp.a.thr (by omega), hp.b.thr (by omega), h3⟩
theorem exj_cases {ts us ys zs : List (Int × Bool)} {k r : Int} (h : exj ts us k = (ys, zs, r)) :
    r ≠ 0 ∨ (r = 0 ∧ us.length = ts.length ∧ ys.length = ts.length ∧ zs.length = ys.length ∧ vpas ts us = true ∧ vpas ys zs = true ∧ psm ys zs ts.length = psm ts us ts.length ∧ exj ys zs k = (ts, us, 0)) := by
  unfold exj at h
  split at h
  · rename_i hv
    obtain ⟨g1, g2, g3, -, -⟩ := vpas_parts hv
    split at h
    · rename_i hb
      have hb' := btw_iff.1 hb
      obtain ⟨K, rfl⟩ : ∃ K : Nat, k = K := ⟨k.toNat, by omega⟩
      have hK : K < ts.length := by omega
      rw [Int.toNat_natCast] at h
      split at h
      · simp only [Prod.mk.injEq] at h
        left; omega
      · rename_i hz
        simp only [Prod.mk.injEq] at h
        obtain ⟨rfl, rfl, rfl⟩ := h
        have z1 : tv ts K ≠ 0 := fun e => hz (.inl e)
        have z2 : tv us K ≠ 0 := fun e => hz (.inr e)
        have hv2 := vpas_cross hv hK z1 z2
        have hK2 : K < us.length := by omega
        refine .inr ⟨rfl, g3, by simp, by simp [g3], hv, hv2, psm_cross ts us hK hK2 _ _ _, ?_⟩
        unfold exj
        have w1 : tv (ts.set K (tv us K, !tp us K)) K ≠ 0 := by rw [tv_setL hK, if_pos rfl]; exact z2
        have w2 : tv (us.set K (tv ts K, !tp ts K)) K ≠ 0 := by rw [tv_setL hK2, if_pos rfl]; exact z1
        rw [if_pos hv2, List.length_set, if_pos hb, Int.toNat_natCast, if_neg (fun h => h.elim w1 w2), set_cross ts us hK hK2, set_cross us ts hK2 hK]
    · simp only [Prod.mk.injEq] at h
      left; omega
  · simp only [Prod.mk.injEq] at h
    left; omega
theorem swj_cases {ts us ys zs : List (Int × Bool)} {r : Int} (h : swj ts us = (ys, zs, r)) :
    r ≠ 0 ∨ (r = 0 ∧ ys = us ∧ zs = ts ∧ vpas us ts = true ∧ swj us ts = (ts, us, 0)) := by
  unfold swj at h
  split at h
  · rename_i hv
    simp only [Prod.mk.injEq] at h
    obtain ⟨rfl, rfl, rfl⟩ := h
    have hv2 := vpas_swap hv
    exact .inr ⟨rfl, rfl, rfl, hv2, by unfold swj; rw [if_pos hv2]⟩
  · simp only [Prod.mk.injEq] at h
    left; omega
theorem rtp_cases {ts us ys zs : List (Int × Bool)} {b r : Int} (h : rtp ts us b = (ys, zs, r)) :
    r ≠ 0 ∨ (r = 0 ∧ (-1000000 ≤ b ∧ b ≤ 1000000) ∧ vpas ys zs = true ∧ rtp ys zs (-b) = (ts, us, 0)) := by
  unfold rtp at h
  split at h
  · rename_i hv
    obtain ⟨g1, g2, g3, -, -⟩ := vpas_parts hv
    split at h
    · rename_i hb
      have hb' := btw_iff.1 hb
      simp only [Prod.mk.injEq] at h
      obtain ⟨rfl, rfl, rfl⟩ := h
      have hv2 := vpas_rot hv b
      refine .inr ⟨rfl, hb', hv2, ?_⟩
      unfold rtp
      rw [if_pos hv2, if_pos (btw_iff.2 (by omega)), rtk_len, rtk_len, rtk_back ts b (by omega), rtk_back us b (by omega)]
    · simp only [Prod.mk.injEq] at h
      left; omega
  · simp only [Prod.mk.injEq] at h
    left; omega
theorem exch_th (A B : Option Addr) (c d : Nat) (ts us : List (Int × Bool)) (k : Int) (hk : -9223372036854775808 ≤ k ∧ k ≤ 9223372036854775807) (w : World) (hI : Thr w A ts.length ts) (hJ : Thr w B us.length us) {ys zs : List (Int × Bool)} {r : Int} (h : exj ts us k = (ys, zs, r)) :
    Calls Try.prog 14 #[.agg #[.slice A ts.length c, .slice B us.length d], .int .i64 k] w (RetTL w ys zs r) :=
  (impl_exch_is A B _ c _ d ts us k hk w hI hJ h).mono fun _ _ h' => retTL_pc (exj_bd h) h'
theorem exchS_th (A B : Option Addr) (c d : Nat) (ts us : List (Int × Bool)) (k : Int) (hk : -9223372036854775808 ≤ k ∧ k ≤ 9223372036854775807) (w : World) (hI : Thr w A ts.length ts) (hJ : Thr w B us.length us) {ys zs : List (Int × Bool)} {r : Int} (h : exj ts us k = (ys, zs, r)) :
    Calls Try.prog 13 #[.agg #[.slice A ts.length c, .slice B us.length d], .int .i64 k] w (RetTL w ys zs r) :=
  (spec_exch_is A B _ c _ d ts us k hk w hI hJ h).mono fun _ _ h' => retTL_pc (exj_bd h) h'
theorem swap_th (A B : Option Addr) (c d : Nat) (ts us : List (Int × Bool)) (w : World) (hI : Thr w A ts.length ts) (hJ : Thr w B us.length us) {ys zs : List (Int × Bool)} {r : Int} (h : swj ts us = (ys, zs, r)) :
    Calls Try.prog 9 #[.agg #[.slice A ts.length c, .slice B us.length d]] w (RetTL w ys zs r) :=
  (impl_swap_is A B _ c _ d ts us w hI hJ h).mono fun _ _ h' => retTL_pc (swj_bd h) h'
theorem swapS_th (A B : Option Addr) (c d : Nat) (ts us : List (Int × Bool)) (w : World) (hI : Thr w A ts.length ts) (hJ : Thr w B us.length us) {ys zs : List (Int × Bool)} {r : Int} (h : swj ts us = (ys, zs, r)) :
    Calls Try.prog 7 #[.agg #[.slice A ts.length c, .slice B us.length d]] w (RetTL w ys zs r) :=
  (spec_swap_is A B _ c _ d ts us w hI hJ h).mono fun _ _ h' => retTL_pc (swj_bd h) h'
theorem rot_th (A B : Option Addr) (c d : Nat) (ts us : List (Int × Bool)) (b : Int) (w : World) (hI : Thr w A ts.length ts) (hJ : Thr w B us.length us) (hb : -2000000 ≤ b ∧ b ≤ 2000000) {ys zs : List (Int × Bool)} {r : Int} (h : rtp ts us b = (ys, zs, r)) :
    Calls Try.prog 19 #[.agg #[.slice A ts.length c, .slice B us.length d], .int .i64 b] w (RetTL w ys zs r) := by
  have := implRotate_any A B _ c _ d ts us b w hI hJ hb
  rw [h] at this
  exact this.mono fun _ _ h' => retTL_of h'
theorem rotS_th (A B : Option Addr) (c d : Nat) (ts us : List (Int × Bool)) (b : Int) (w : World) (hI : Thr w A ts.length ts) (hJ : Thr w B us.length us) (hb : -2000000 ≤ b ∧ b ≤ 2000000) {ys zs : List (Int × Bool)} {r : Int} (h : rtp ts us b = (ys, zs, r)) :
    Calls Try.prog 20 #[.agg #[.slice A ts.length c, .slice B us.length d], .int .i64 b] w (RetTL w ys zs r) := by
  have := specRotate_any A B _ c _ d ts us b w hI hJ hb
  rw [h] at this
  exact this.mono fun _ _ h' => retTL_of h'
theorem same_th (A B A' B' : Option Addr) (c d c' d' : Nat) (ts us : List (Int × Bool)) (w : World) (hA : Thr w A ts.length ts) (hB : Thr w B us.length us) (hA' : Thr w A' ts.length ts) (hB' : Thr w B' us.length us) :
    Calls Try.prog 21 #[.agg #[.slice A ts.length c, .slice B us.length d], .agg #[.slice A' ts.length c', .slice B' us.length d']] w (fun e w' => e = .returned (.bool true) ∧ Ext w w') :=
  SamePassing_same A B A' B' _ c _ d c' d' ts us w hA hB hA' hB'
theorem valid_th (A B : Option Addr) (c d : Nat) (ts us : List (Int × Bool)) (w : World) (hI : Thr w A ts.length ts) (hJ : Thr w B us.length us) (v : Bool) (h : Hid (vpas ts us = v)) :
    Calls Try.prog 22 #[.agg #[.slice A ts.length c, .slice B us.length d]] w fun e w' => e = .returned (.bool v) ∧ Ext w w' := by
  have := ValidPassing_any A B _ c _ d ts us w hI hJ
  rwa [h.out] at this
theorem validS_th (A B : Option Addr) (c d : Nat) (ts us : List (Int × Bool)) (w : World) (hI : Thr w A ts.length ts) (hJ : Thr w B us.length us) (v : Bool) (h : Hid (vpas ts us = v)) :
    Calls Try.prog 23 #[.agg #[.slice A ts.length c, .slice B us.length d]] w fun e w' => e = .returned (.bool v) ∧ Ext w w' := by
  have := specValidPassing_any A B _ c _ d ts us w hI hJ
  rwa [h.out] at this
theorem props_th (A B : Option Addr) (c d : Nat) (ts us : List (Int × Bool)) (w : World) (hI : Thr w A ts.length ts) (hJ : Thr w B us.length us) (hl : Hid (us.length = ts.length)) (hv : Hid (vpas ts us = true)) (v : Int) (h : Hid (RowKit.wrap64 (psm ts us ts.length / ts.length) = v)) :
    Calls Try.prog 24 #[.agg #[.slice A ts.length c, .slice B us.length d]] w fun e w' => e = .returned (.tuple #[.int .i64 v, .int .i64 0]) ∧ Ext w w' := by
  rw [hl.out] at hJ ⊢
  have := implPassingProps_yes A B _ c d ts us w hI hJ hv
  rwa [h.out] at this
theorem f6bigP_any (A : Option Addr) (n c : Nat) (w : World) (hn : n ≤ 9223372036854775807) :
    Calls Try.prog 15 #[.slice A n c] w fun e w' => e = .returned (.bool (decide (4096 < n))) ∧ w = w' := by
  by_cases h : 4096 < n
  · have hi : (4096 : Int) < n := by omega
    rw [decide_eq_true h]
    go_enter Try.func15, Try.ntmps15
    go_wp2
    go_ret
    exact ⟨rfl, rfl⟩
  · have hi : ¬ (4096 : Int) < n := by omega
    rw [decide_eq_false h]
    go_enter Try.func15, Try.ntmps15
    go_wp2
    go_ret
    exact ⟨rfl, rfl⟩
end Go.Proofs.Ytlalaomimfdepaa
