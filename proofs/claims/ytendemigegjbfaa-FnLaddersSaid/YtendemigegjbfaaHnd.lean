/- Orders of hands: plain words, and contracts of ValidHands, l14Ok, handCount, l14Count, handAt, l14At. No condition but the stated bounds. -/
import Derived.Test.YtendemigegjbfaaMea
import Derived.Test.YtendemigegjbfaaApp
import Derived.Test.YtendemigegjbfaaFrc
namespace Go.Proofs.Ytendemigegjbfaa
set_option linter.unusedVariables false
set_option linter.unusedSimpArgs false
open Go.RowKit

/-- Hand h is among the first k. -/
def sn (os : List Int) (k : Nat) (h : Int) : Bool := decide (∃ i, i < k ∧ os[i]?.getD 0 = h)
theorem sn_zero (os : List Int) (h : Int) : sn os 0 h = false := by simp [sn]
theorem sn_succ (os : List Int) (k : Nat) (h : Int) : sn os (k + 1) h = (sn os k h || decide (os[k]?.getD 0 = h)) := by
  unfold sn
  rw [Bool.eq_iff_iff]
  simp only [Bool.or_eq_true, decide_eq_true_eq]
  constructor
  · rintro ⟨i, hi, he⟩
    by_cases e : i = k
    · subst e; exact .inr he
    · exact .inl ⟨i, by omega, he⟩
  · rintro (⟨i, hi, he⟩ | he)
    · exact ⟨i, by omega, he⟩
    · exact ⟨k, by omega, he⟩
/-- The first k are hands. -/
def AllH (os : List Int) (k : Nat) : Prop := ∀ i, i < k → btw (os[i]?.getD 0) 0 3 = true
instance (os : List Int) (k : Nat) : Decidable (AllH os k) := by unfold AllH; infer_instance
theorem AllH.succ {os : List Int} {k : Nat} (h : AllH os k) (hk : btw (os[k]?.getD 0) 0 3 = true) : AllH os (k + 1) := fun i hi => by
  by_cases e : i = k
  · rw [e]; exact hk
  · exact h i (by omega)
/-- The first j hands are among them. -/
def SeenTo (os : List Int) (j : Nat) : Prop := ∀ h : Nat, h < j → sn os os.length h = true
instance (os : List Int) (j : Nat) : Decidable (SeenTo os j) := by unfold SeenTo; infer_instance
/-- The number of hands. -/
def hct (os : List Int) : Int := hig os os.length + 1
/-- The list is an order of hands. -/
def vhd (os : List Int) : Bool := btw (os.length : Int) 1 12 && (decide (AllH os os.length) && decide (SeenTo os (hct os).toNat))
theorem vhd_len {os : List Int} (h : btw (os.length : Int) 1 12 = false) : vhd os = false := by unfold vhd; rw [h]; rfl
theorem vhd_all {os : List Int} {k : Nat} (hk : k < os.length) (h : btw (os[k]?.getD 0) 0 3 = false) : vhd os = false := by
  unfold vhd
  rw [decide_eq_false (p := AllH os os.length) (fun ha => by have := ha k hk; rw [h] at this; cases this)]
  simp
theorem vhd_seen {os : List Int} {j : Nat} (hj : (j : Int) < hct os) (h : sn os os.length j = false) : vhd os = false := by
  unfold vhd
  rw [decide_eq_false (p := SeenTo os (hct os).toNat) (fun ha => by have := ha j (by omega); rw [h] at this; cases this)]
  simp
theorem vhd_yes {os : List Int} (h1 : btw (os.length : Int) 1 12 = true) (h2 : AllH os os.length) (h3 : SeenTo os (hct os).toNat) : vhd os = true := by
  unfold vhd
  rw [h1, decide_eq_true h2, decide_eq_true h3]
  rfl
theorem vhd_iff {os : List Int} (h : vhd os = true) : (1 ≤ os.length ∧ os.length ≤ 12) ∧ (∀ i, i < os.length → 0 ≤ os[i]?.getD 0 ∧ os[i]?.getD 0 ≤ 3) ∧ SeenTo os (hct os).toNat := by
  unfold vhd at h
  rw [Bool.and_eq_true, Bool.and_eq_true, btw_iff, decide_eq_true_iff, decide_eq_true_iff] at h
  obtain ⟨h1, h2, h3⟩ := h
  exact ⟨by omega, fun i hi => btw_iff.1 (h2 i hi), h3⟩
theorem hig_bd3 {os : List Int} {k : Nat} (h : ∀ i, i < k → 0 ≤ os[i]?.getD 0 ∧ os[i]?.getD 0 ≤ 3) : 0 ≤ hig os k ∧ hig os k ≤ 3 := by
  unfold hig
  induction k with
  | zero => simp [fold]
  | succ k ih =>
    have := ih (fun i hi => h i (by omega))
    have := h k (by omega)
    simp only [fold]
    exact cmf_bd (by omega) (by omega)
theorem AllH.bd {os : List Int} {k : Nat} (h : AllH os k) : ∀ i, i < k → 0 ≤ os[i]?.getD 0 ∧ os[i]?.getD 0 ≤ 3 := fun i hi => btw_iff.1 (h i hi)
set_option maxHeartbeats 1000000 in
theorem handCount_any (A : Option Addr) (n c : Nat) (os : List Int) (w : World) (hI : Ints w A n os) (hv : ∀ i, i < n → 0 ≤ os[i]?.getD 0 ∧ os[i]?.getD 0 ≤ 3) (hn : n ≤ 12) :
    Calls Try.prog 94 #[.slice A n c] w fun e w' => e = .returned (.int .i64 (hct os)) ∧ w = w' := by
  have HB := Lib.hid hv
  have HR : Hid (hig os n + 1 = hct os) := by show _ = _; unfold hct; rw [hI.len]
  clear hv
  go_enter Try.func94, Try.ntmps94
  go_wp2
  go_loop [3, 8, 5] (fun s i _ => ∃ k : Nat, k ≤ n ∧ i = .int .i64 k ∧ s = .int .i64 (hig os k)) (fun _ i _ => n - (intOf i).toNat)
  case atStart => exact ⟨0, by omega, rfl, rfl⟩
  case round =>
    obtain ⟨k, hk, rfl, rfl⟩ := hrel
    have hbd := hig_bd3 (os := os) (k := k) (fun i hi => HB.out i (by omega))
    by_cases hlt : k < n
    · obtain ⟨b, off, rfl, hb, hcell⟩ := hI.at_ (by omega)
      have hc := hcell k hlt
      have hbk := HB.out k hlt
      have ik : (k : Int) < n := by omega
      clear hcell
      by_cases hx : hig os k < os[k]?.getD 0
      · have HS : Hid (hig os (k + 1) = os[k]?.getD 0) := by show _ = _; exact cmf_pos hx
        go_wp2
        go_round
        case rel => exact ⟨k + 1, by omega, by go_num, by rw [HS.out]⟩
        case measure => simp [intOf]; omega
      · have HS : Hid (hig os (k + 1) = hig os k) := by show _ = _; exact cmf_neg hx
        go_wp2
        go_round
        case rel => exact ⟨k + 1, by omega, by go_num, by rw [HS.out]⟩
        case measure => simp [intOf]; omega
    · obtain rfl : k = n := by omega
      go_wp2
      go_ret
      exact ⟨ret_int HR.out, rfl⟩
/-- The count of the first k. -/
def hcc (os : List Int) (k : Nat) : Int := if k = 0 then 0 else hig os k + 1
set_option maxHeartbeats 1000000 in
theorem l14Count_any (A : Option Addr) (n c : Nat) (os : List Int) (w : World) (hI : Ints w A n os) (hv : ∀ i, i < n → 0 ≤ os[i]?.getD 0 ∧ os[i]?.getD 0 ≤ 3) (h1 : 1 ≤ n) (hn : n ≤ 12) :
    Calls Try.prog 84 #[.slice A n c] w fun e w' => e = .returned (.int .i64 (hct os)) ∧ w = w' := by
  have HB := Lib.hid hv
  have HR : Hid (hcc os n = hct os) := by show _ = _; unfold hct hcc; rw [if_neg (by omega), hI.len]
  clear hv
  go_enter Try.func84, Try.ntmps84
  go_wp2
  go_loop [3, 4] (fun s i => ∃ k : Nat, k ≤ n ∧ i = .int .i64 k ∧ s = .int .i64 (hcc os k)) (fun _ i => n - (intOf i).toNat)
  case atStart => exact ⟨0, by omega, rfl, rfl⟩
  case round =>
    obtain ⟨k, hk, rfl, rfl⟩ := hrel
    have hbd := hig_bd3 (os := os) (k := k) (fun i hi => HB.out i (by omega))
    have hbd2 : 0 ≤ hcc os k ∧ hcc os k ≤ 4 := by unfold hcc; split <;> omega
    by_cases hlt : k < n
    · obtain ⟨b, off, rfl, hb, hcell⟩ := hI.at_ (by omega)
      have hc := hcell k hlt
      have hbk := HB.out k hlt
      have ik : (k : Int) < n := by omega
      clear hcell
      have HS : Hid (hcc os (k + 1) = cmf (hcc os k) (os[k]?.getD 0 + 1)) := by
        show _ = _
        have e : hig os (k + 1) = cmf (hig os k) (os[k]?.getD 0) := rfl
        unfold hcc
        rw [if_neg (by omega), e]
        by_cases h0 : k = 0
        · subst h0
          rw [if_pos rfl, show hig os 0 = 0 from rfl]
          rw [cmf_pos (a := 0) (b := (os[(0 : Nat)]?).getD (0 : Int) + 1) (by omega)]
          by_cases h9 : 0 < (os[(0 : Nat)]?).getD (0 : Int)
          · rw [cmf_pos h9]
          · rw [cmf_neg h9]; omega
        · rw [if_neg h0]
          unfold cmf
          split <;> split <;> omega
      clear hbd
      go_wp2_with (first | (go_at_call 95; (with_reducible refine (l00Max_any _ _ _).mono ?_); rintro e w' ⟨rfl, rfl⟩))
      go_round
      case rel => exact ⟨k + 1, by omega, by go_num, by rw [HS.out]⟩
      case measure => simp [intOf]; omega
    · obtain rfl : k = n := by omega
      go_wp2
      go_ret
      exact ⟨ret_int HR.out, rfl⟩
set_option maxHeartbeats 1000000 in
theorem l00Has_any (A : Option Addr) (n c : Nat) (os : List Int) (h : Int) (w : World) (hI : Ints w A n os) :
    Calls Try.prog 85 #[.slice A n c, .int .i64 h] w fun e w' => e = .returned (.bool (sn os n h)) ∧ w = w' := by
  have hs := hI.small
  go_enter Try.func85, Try.ntmps85
  go_wp2
  go_loop [5] (fun i => ∃ k : Nat, k ≤ n ∧ i = .int .i64 k ∧ sn os k h = false) (fun i => n - (intOf i).toNat)
  case atStart => exact ⟨0, Nat.zero_le _, rfl, sn_zero _ _⟩
  case round =>
    obtain ⟨k, hk, rfl, hno⟩ := hrel
    have HN := Lib.hid hno
    clear hno
    by_cases hlt : k < n
    · obtain ⟨b, off, rfl, hb, hcell⟩ := hI.at_ (by omega)
      have hc := hcell k hlt
      have ik : (k : Int) < n := by omega
      clear hcell
      by_cases h1 : os[k]?.getD 0 = h
      · have HS : Hid (sn os n h = true) := by show _ = _; unfold sn; exact decide_eq_true ⟨k, hlt, h1⟩
        have heq : (os[k]?.getD 0 == h) = true := by simpa using h1
        generalize os[k]?.getD 0 = y at *
        subst h1
        go_wp2
        go_ret
        exact ⟨ret_bool HS.out.symm, rfl⟩
      · have HS : Hid (sn os (k + 1) h = false) := by show _ = _; rw [sn_succ, HN.out, decide_eq_false h1]; rfl
        have heq : (os[k]?.getD 0 == h) = false := by simpa using h1
        clear h1
        generalize os[k]?.getD 0 = y at *
        go_wp2
        go_round
        case rel => exact ⟨k + 1, by omega, by go_num, HS.out⟩
        case measure => simp [intOf]; omega
    · obtain rfl : k = n := by omega
      go_wp2
      go_ret
      exact ⟨ret_bool HN.out.symm, rfl⟩
theorem l00Has_is (A : Option Addr) (n c : Nat) (os : List Int) (h : Int) (w : World) (hI : Ints w A n os) (v : Bool) (hv : sn os n h = v) :
    Calls Try.prog 85 #[.slice A n c, .int .i64 h] w fun e w' => e = .returned (.bool v) ∧ w = w' := by
  subst hv
  exact l00Has_any A n c os h w hI
set_option maxHeartbeats 2000000 in
theorem l14Ok_any (A : Option Addr) (n c : Nat) (os : List Int) (w : World) (hI : Ints w A n os) :
    Calls Try.prog 58 #[.slice A n c] w fun e w' => e = .returned (.bool (vhd os)) ∧ w = w' := by
  have hs := hI.small
  have HL := Lib.hid hI.len
  cases h0 : btw (n : Int) 1 12
  · have HR : Hid (vhd os = false) := vhd_len (by rw [HL.out]; exact h0)
    have H0 := Lib.hid h0
    clear h0
    go_enter Try.func58, Try.ntmps58
    go_wp2_with (first | (go_at_call 44; (with_reducible refine (l00In_is _ _ _ _ H0.out _).mono ?_); rintro e w' ⟨rfl, rfl⟩))
    go_ret
    exact ⟨ret_bool HR.out.symm, rfl⟩
  · have hn := btw_iff.1 h0
    have H0 := Lib.hid h0
    clear h0
    go_enter Try.func58, Try.ntmps58
    go_wp2_with (first | (go_at_call 44; (with_reducible refine (l00In_is _ _ _ _ H0.out _).mono ?_); rintro e w' ⟨rfl, rfl⟩))
    go_loop [3] (fun i => ∃ k : Nat, k ≤ n ∧ i = .int .i64 k ∧ AllH os k) (fun i => n - (intOf i).toNat)
    case atStart => exact ⟨0, Nat.zero_le _, rfl, fun i h => absurd h (by omega)⟩
    case round =>
      obtain ⟨k, hk, rfl, hall⟩ := hrel
      by_cases hlt : k < n
      · obtain ⟨b, off, rfl, hb, hcell⟩ := hI.at_ (by omega)
        have hc := hcell k hlt
        have ik : (k : Int) < n := by omega
        clear hcell
        cases h1 : btw (os[k]?.getD 0) 0 3
        · have HR : Hid (vhd os = false) := vhd_all (by rw [HL.out]; exact hlt) h1
          have H1 := Lib.hid h1
          clear h1
          go_wp2_with (first | (go_at_call 44; (with_reducible refine (l00In_is _ _ _ _ H1.out _).mono ?_); rintro e w' ⟨rfl, rfl⟩))
          go_ret
          exact ⟨ret_bool HR.out.symm, rfl⟩
        · have HA : Hid (AllH os (k + 1)) := hall.succ h1
          have H1 := Lib.hid h1
          clear h1
          go_wp2_with (first | (go_at_call 44; (with_reducible refine (l00In_is _ _ _ _ H1.out _).mono ?_); rintro e w' ⟨rfl, rfl⟩))
          go_round
          case rel => exact ⟨k + 1, by omega, by go_num, HA.out⟩
          case measure => simp [intOf]; omega
      · obtain rfl : k = n := by omega
        have HB := Lib.hid hall.bd
        have hcb : 1 ≤ hct os ∧ hct os ≤ 4 := by
          have := hig_bd3 (os := os) (k := k) HB.out
          unfold hct
          rw [HL.out]
          omega
        have HA := Lib.hid hall
        clear hall
        go_wp2
        go_loop [4] (fun i => ∃ j : Nat, (j : Int) ≤ hct os ∧ i = .int .i64 j ∧ SeenTo os j) (fun i => (hct os - intOf i).toNat)
        case atStart => exact ⟨0, by omega, rfl, fun i h => absurd h (by omega)⟩
        case round =>
          obtain ⟨j, hj, rfl, hse⟩ := hrel
          have HSe := Lib.hid hse
          clear hse
          by_cases hjl : (j : Int) < hct os
          · cases h1 : sn os k j
            · have HR : Hid (vhd os = false) := vhd_seen hjl (by rw [HL.out]; exact h1)
              have H1 := Lib.hid h1
              clear h1
              go_wp2_with (first | (go_at_call 84; (with_reducible refine (l14Count_any _ _ _ os _ hI HB.out (by omega) (by omega)).mono ?_); rintro e w' ⟨rfl, rfl⟩) | (go_at_call 85; (with_reducible refine (l00Has_is _ _ _ os _ _ hI _ H1.out).mono ?_); rintro e w' ⟨rfl, rfl⟩))
              go_ret
              exact ⟨ret_bool HR.out.symm, rfl⟩
            · have HS : Hid (SeenTo os (j + 1)) := fun h hh => by
                by_cases e : h = j
                · rw [e, HL.out]; exact h1
                · exact HSe.out h (by omega)
              have H1 := Lib.hid h1
              clear h1
              go_wp2_with (first | (go_at_call 84; (with_reducible refine (l14Count_any _ _ _ os _ hI HB.out (by omega) (by omega)).mono ?_); rintro e w' ⟨rfl, rfl⟩) | (go_at_call 85; (with_reducible refine (l00Has_is _ _ _ os _ _ hI _ H1.out).mono ?_); rintro e w' ⟨rfl, rfl⟩))
              go_round
              case rel => exact ⟨j + 1, by omega, by go_num, HS.out⟩
              case measure => simp [intOf]; omega
          · have HR : Hid (vhd os = true) := vhd_yes (by rw [HL.out]; exact H0.out) (by rw [HL.out]; exact HA.out) (by rw [show (hct os).toNat = j by omega]; exact HSe.out)
            go_wp2_with (first | (go_at_call 84; (with_reducible refine (l14Count_any _ _ _ os _ hI HB.out (by omega) (by omega)).mono ?_); rintro e w' ⟨rfl, rfl⟩))
            go_ret
            exact ⟨ret_bool HR.out.symm, rfl⟩
end Go.Proofs.Ytendemigegjbfaa
