/- Throws with hands: plain laws, and contracts of CommonPeriod, HandAt, f6big. No condition but the stated bounds. -/
import Derived.Test.YtdmjmnkcnohhlaaDrh
import Derived.Test.YtdmjmnkcnohhlaaCrs
import Derived.Test.YtdmjmnkcnohhlaaAmb
namespace Go.Proofs.Ytdmjmnkcnohhlaa
set_option linter.unusedVariables false
set_option linter.unusedSimpArgs false
open Go.RowKit Go.Joins

theorem tcn_mono (ps : List Int) {a b : Nat} (h : a ≤ b) : tcn ps a ≤ tcn ps b := by
  induction b with
  | zero => rw [show a = 0 by omega]; exact Nat.le_refl _
  | succ b ih =>
    by_cases e : a = b + 1
    · rw [e]; exact Nat.le_refl _
    · have := ih (by omega)
      simp only [tcn]
      omega
/-- The throw i. -/
theorem htr_row (ps os : List Int) (K : Nat) : ∀ i, i < tcn ps K → ∃ b : Nat, b < K ∧ 0 < thAt ps b ∧ tcn ps b = i ∧ (htr ps os K)[i * 4]?.getD 0 = b ∧ (htr ps os K)[i * 4 + 1]?.getD 0 = thAt ps b ∧ (htr ps os K)[i * 4 + 2]?.getD 0 = thAt os b ∧ (htr ps os K)[i * 4 + 3]?.getD 0 = thAt os ((b : Int) + thAt ps b) := by
  induction K with
  | zero => intro i hi; simp [tcn] at hi
  | succ K ih =>
    intro i hi
    have hl := htr_len ps os K
    by_cases h1 : i < tcn ps K
    · obtain ⟨b, b1, b2, b3, e0, e1, e2, e3⟩ := ih i h1
      refine ⟨b, by omega, b2, b3, ?_⟩
      simp only [htr]
      rw [List.getElem?_append_left (by omega), List.getElem?_append_left (by omega), List.getElem?_append_left (by omega), List.getElem?_append_left (by omega)]
      exact ⟨e0, e1, e2, e3⟩
    · by_cases h2 : 0 < thAt ps K
      · obtain ⟨e1, e2⟩ := htr_yes (os := os) h2
        rw [e2] at hi
        obtain rfl : i = tcn ps K := by omega
        refine ⟨K, by omega, h2, rfl, ?_⟩
        rw [e1]
        rw [List.getElem?_append_right (by omega), List.getElem?_append_right (by omega), List.getElem?_append_right (by omega), List.getElem?_append_right (by omega), hl]
        rw [show tcn ps K * 4 - tcn ps K * 4 = 0 by omega, show tcn ps K * 4 + 1 - tcn ps K * 4 = 1 by omega, show tcn ps K * 4 + 2 - tcn ps K * 4 = 2 by omega, show tcn ps K * 4 + 3 - tcn ps K * 4 = 3 by omega]
        exact ⟨rfl, rfl, rfl, rfl⟩
      · have := (htr_no (os := os) h2).2
        omega
/-- The code and the value of HandAt. -/
def hac (os : List Int) (t : Int) : Int := if vhd os = true then (if btw t (-1000000) 1000000 = true then 0 else 2) else 1
def hav (os : List Int) (t : Int) : Int := if hac os t = 0 then thAt os t else 0
def cpv (ps os : List Int) : Int := if hcd ps os = 0 then (cmp_ ps.length os.length : Nat) else 0
theorem f6big_any (A : Option Addr) (n c : Nat) (w : World) (hn : n ≤ 9223372036854775807) :
    Calls Try.prog 5 #[.slice A n c] w fun e w' => e = .returned (.bool (decide (4096 < n))) ∧ w = w' := by
  by_cases h : 4096 < n
  · have hi : (4096 : Int) < n := by omega
    rw [decide_eq_true h]
    go_enter Try.func5, Try.ntmps5
    go_wp2
    go_ret
    exact ⟨rfl, rfl⟩
  · have hi : ¬ (4096 : Int) < n := by omega
    rw [decide_eq_false h]
    go_enter Try.func5, Try.ntmps5
    go_wp2
    go_ret
    exact ⟨rfl, rfl⟩
theorem isBeat_is (t : Int) (v : Bool) (h : btw t (-1000000) 1000000 = v) (w : World) :
    Calls Try.prog 46 #[.int .i64 t] w fun e w' => e = .returned (.bool v) ∧ w = w' := by
  go_enter Try.func46, Try.ntmps46
  go_wp2_with (first | (go_at_call 42; (with_reducible refine (between_is _ _ _ v h _).mono ?_); rintro e w' ⟨rfl, rfl⟩))
  go_ret
  exact ⟨rfl, rfl⟩
set_option maxHeartbeats 1000000 in
theorem implHandAt_ret (A : Option Addr) (n c : Nat) (os : List Int) (t : Int) (w : World) (hI : Ints w A n os) :
    Calls Try.prog 23 #[.slice A n c, .int .i64 t] w fun e w' => e = .returned (.tuple #[.int .i64 (hav os t), .int .i64 (hac os t)]) ∧ Ext w w' := by
  unfold hav hac
  cases hv : vhd os
  · rw [if_neg (by simp)]
    have HV := Lib.hid hv
    clear hv
    go_enter Try.func23, Try.ntmps23
    go_wp2_with (first | (go_at_call 41; (with_reducible refine (ValidHands_is _ _ _ os _ hI _ HV.out).mono ?_); rintro e w2 ⟨rfl, hx2⟩))
    go_ret2
    exact ⟨rfl, hx2⟩
  · rw [if_pos rfl]
    have HV := Lib.hid hv
    clear hv
    cases hb : btw t (-1000000) 1000000
    · rw [if_neg (by simp)]
      have HB := Lib.hid hb
      clear hb
      go_enter Try.func23, Try.ntmps23
      go_wp2_with (first | (go_at_call 41; (with_reducible refine (ValidHands_is _ _ _ os _ hI _ HV.out).mono ?_); rintro e w2 ⟨rfl, hx2⟩) | (go_at_call 46; (with_reducible refine (isBeat_is _ _ HB.out _).mono ?_); rintro e w' ⟨rfl, rfl⟩))
      go_ret2
      exact ⟨rfl, hx2⟩
    · rw [if_pos rfl, if_pos rfl]
      have HB := Lib.hid hb
      clear hb
      go_enter Try.func23, Try.ntmps23
      go_wp2_with (first | (go_at_call 41; (with_reducible refine (ValidHands_is _ _ _ os _ hI _ HV.out).mono ?_); rintro e w2 ⟨rfl, hx2⟩) | (go_at_call 46; (with_reducible refine (isBeat_is _ _ HB.out _).mono ?_); rintro e w' ⟨rfl, rfl⟩) | (go_at_call 47; (with_reducible refine (handAt_any _ _ _ os _ _ (hI.ext hx2) HV.out).mono ?_); rintro e w' ⟨rfl, rfl⟩))
      go_ret2
      exact ⟨rfl, hx2⟩
set_option maxHeartbeats 1000000 in
theorem specHandAt_ret (A : Option Addr) (n c : Nat) (os : List Int) (t : Int) (w : World) (hI : Ints w A n os) :
    Calls Try.prog 24 #[.slice A n c, .int .i64 t] w fun e w' => e = .returned (.tuple #[.int .i64 (hav os t), .int .i64 (hac os t)]) ∧ Ext w w' := by
  unfold hav hac
  cases hv : vhd os
  · rw [if_neg (by simp)]
    have HV := Lib.hid hv
    clear hv
    go_enter Try.func24, Try.ntmps24
    go_wp2_with (first | (go_at_call 43; (with_reducible refine (l14Ok_is _ _ _ os _ hI _ HV.out).mono ?_); rintro e w' ⟨rfl, rfl⟩))
    go_ret2
    exact ⟨rfl, Ext.refl _⟩
  · rw [if_pos rfl]
    have HV := Lib.hid hv
    clear hv
    cases hb : btw t (-1000000) 1000000
    · rw [if_neg (by simp)]
      have HB := Lib.hid hb
      clear hb
      go_enter Try.func24, Try.ntmps24
      go_wp2_with (first | (go_at_call 43; (with_reducible refine (l14Ok_is _ _ _ os _ hI _ HV.out).mono ?_); rintro e w' ⟨rfl, rfl⟩) | (go_at_call 48; (with_reducible refine (l00In_is _ _ _ _ HB.out _).mono ?_); rintro e w' ⟨rfl, rfl⟩))
      go_ret2
      exact ⟨rfl, Ext.refl _⟩
    · rw [if_pos rfl, if_pos rfl]
      have HB := Lib.hid hb
      clear hb
      go_enter Try.func24, Try.ntmps24
      go_wp2_with (first | (go_at_call 43; (with_reducible refine (l14Ok_is _ _ _ os _ hI _ HV.out).mono ?_); rintro e w' ⟨rfl, rfl⟩) | (go_at_call 48; (with_reducible refine (l00In_is _ _ _ _ HB.out _).mono ?_); rintro e w' ⟨rfl, rfl⟩) | (go_at_call 49; (with_reducible refine (l14At_any _ _ _ os _ _ hI HV.out).mono ?_); rintro e w' ⟨rfl, rfl⟩))
      go_ret2
      exact ⟨rfl, Ext.refl _⟩
set_option maxHeartbeats 1000000 in
theorem implCommonPeriod_ret (A B : Option Addr) (n c m d : Nat) (ps os : List Int) (w : World) (hI : Ints w A n ps) (hJ : Ints w B m os) :
    Calls Try.prog 16 #[.slice A n c, .slice B m d] w fun e w' => e = .returned (.tuple #[.int .i64 (cpv ps os), .int .i64 (hcd ps os)]) ∧ Ext w w' := by
  unfold cpv
  by_cases hr : hcd ps os = 0
  · rw [if_pos hr, hr, hI.len, hJ.len]
    obtain ⟨hv, ho⟩ := hcd_zero hr
    have hn := (thr_iff.1 (vpat_thr hv)).2
    have hm := (vhd_iff ho).1
    rw [hI.len] at hn
    rw [hJ.len] at hm
    have HC := Lib.hid hr
    clear hr hv ho
    go_enter Try.func16, Try.ntmps16
    go_wp2_with (first | (go_at_call 28; (with_reducible refine (areHanded_yes _ _ _ _ _ _ ps os _ hI hJ HC.out).mono ?_); rintro e w1 ⟨rfl, hx1⟩) | (go_at_call 34; (with_reducible refine (commonPeriod_any _ _ n _ m _ _ hn hm).mono ?_); rintro e w2 ⟨rfl, hx2⟩))
    go_ret2
    exact ⟨rfl, hx1.trans hx2⟩
  · rw [if_neg hr, show hcd ps os = 1 by unfold hcd at hr ⊢; split at hr <;> simp_all]
    have HC := Lib.hid hr
    clear hr
    go_enter Try.func16, Try.ntmps16
    go_wp2_with (first | (go_at_call 28; (with_reducible refine (areHanded_no _ _ _ _ _ _ ps os _ hI hJ HC.out).mono ?_); rintro e w1 ⟨rfl, hx1⟩))
    go_ret2
    exact ⟨rfl, hx1⟩
set_option maxHeartbeats 1000000 in
theorem specCommonPeriod_ret (A B : Option Addr) (n c m d : Nat) (ps os : List Int) (w : World) (hI : Ints w A n ps) (hJ : Ints w B m os) :
    Calls Try.prog 19 #[.slice A n c, .slice B m d] w fun e w' => e = .returned (.tuple #[.int .i64 (cpv ps os), .int .i64 (hcd ps os)]) ∧ Ext w w' := by
  unfold cpv
  by_cases hr : hcd ps os = 0
  · rw [if_pos hr, hr, hI.len, hJ.len]
    obtain ⟨hv, ho⟩ := hcd_zero hr
    have hn := (thr_iff.1 (vpat_thr hv)).2
    have hm := (vhd_iff ho).1
    rw [hI.len] at hn
    rw [hJ.len] at hm
    have HC := Lib.hid hr
    clear hr hv ho
    go_enter Try.func19, Try.ntmps19
    go_wp2_with (first | (go_at_call 31; (with_reducible refine (l14Code_is _ _ _ _ _ _ ps os _ hI hJ 0 HC).mono ?_); rintro e w1 ⟨rfl, hx1⟩) | (go_at_call 36; (with_reducible refine (l14Common_any _ _ n _ m _ _ hn hm).mono ?_); rintro e w' ⟨rfl, rfl⟩))
    go_ret2
    exact ⟨rfl, hx1⟩
  · rw [if_neg hr]
    have h0 : (hcd ps os != 0) = true := by simpa using hr
    obtain ⟨r, hrr⟩ : ∃ r, hcd ps os = r := ⟨_, rfl⟩
    rw [hrr] at h0 ⊢
    have HC := Lib.hid hrr
    clear hrr hr
    go_enter Try.func19, Try.ntmps19
    go_wp2_with (first | (go_at_call 31; (with_reducible refine (l14Code_is _ _ _ _ _ _ ps os _ hI hJ r HC).mono ?_); rintro e w1 ⟨rfl, hx1⟩))
    go_ret2
    exact ⟨rfl, hx1⟩
end Go.Proofs.Ytdmjmnkcnohhlaa
