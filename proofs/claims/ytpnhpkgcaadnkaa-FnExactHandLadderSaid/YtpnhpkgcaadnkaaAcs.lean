/- How many props are in the air at the beats: contracts of AirCounts. No condition but the stated bounds. -/
import Derived.Test.YtpnhpkgcaadnkaaPra
namespace Go.Proofs.Ytpnhpkgcaadnkaa
set_option linter.unusedVariables false
set_option linter.unusedSimpArgs false
open Go.RowKit

def acl (h : Int → Int) (k : Nat) : List Int := (List.range k).map (airc h)
theorem acl_succ (h : Int → Int) (k : Nat) : acl h (k + 1) = acl h k ++ [airc h k] := by simp [acl, List.range_succ]
/-- What AirCounts gives. -/
def acs (xs : List Int) (t : Int) : List Int := if rcd xs t = 0 then acl (thAt xs) t.toNat else []
theorem acs_bd (xs : List Int) (t : Int) : thpn xs t ≤ 1048576 ∧ ∀ y ∈ acs xs t, -9223372036854775808 ≤ y ∧ y ≤ 9223372036854775807 := by
  refine ⟨(thps_bd xs t).1, ?_⟩
  unfold acs
  split
  · rename_i hr
    obtain ⟨hv, ht⟩ := rcd_zero hr
    intro y hy
    simp only [acl, List.mem_map, List.mem_range] at hy
    obtain ⟨i, hi, rfl⟩ := hy
    have := airc_bd (thAt_endless hv) i
    omega
  · simp
/-- The character of a prop at a beat. -/
def chr (h : Int → Int) (b : Nat) (p : Int) : Int := if plr h b = p then 42 else if p < (pls h b).2 then 124 else 46
set_option maxHeartbeats 1000000 in
theorem l18Char_any (A : Option Addr) (t c : Nat) (xs : List Int) (p : Int) (b : Nat) (w : World) (hJ : Ints w A t (pls (thAt xs) t).1) (hv : vpat xs = true) (hb : b < t) (hp : 0 ≤ p) (ht : t ≤ 1000) :
    Calls Try.prog 75 #[.slice A t c, .int .i64 p, .int .i64 b] w fun e w' => e = .returned (.int .u8 (chr (thAt xs) b p)) ∧ w = w' := by
  obtain ⟨g, off, rfl, hg, hcell⟩ := hJ.at_ (by omega)
  have hcb := hcell b hb
  rw [pls_get (thAt xs) hb] at hcb
  have HC := Lib.hid hcell
  clear hcell
  have HV := Lib.hid hv
  clear hv
  have hbt : (b : Int) < t := by omega
  by_cases h0 : plr (thAt xs) b = p
  · have HR : Hid (chr (thAt xs) b p = 42) := if_pos h0
    have heq : (plr (thAt xs) b == p) = true := by simpa using h0
    generalize plr (thAt xs) b = y at *
    subst h0
    go_enter Try.func75, Try.ntmps75
    go_wp2
    go_ret
    exact ⟨ret_int HR.out.symm, rfl⟩
  · have heq : (plr (thAt xs) b == p) = false := by simpa using h0
    have HR : Hid (chr (thAt xs) b p = if p < (pls (thAt xs) b).2 then 124 else 46) := if_neg h0
    clear h0
    generalize plr (thAt xs) b = y at *
    go_enter Try.func75, Try.ntmps75
    go_wp2
    go_loop [7] (fun i => ∃ k : Nat, k ≤ b ∧ i = .int .i64 k ∧ ∀ i, i < k → ¬ plr (thAt xs) i = p) (fun i => b - (intOf i).toNat)
    case atStart => exact ⟨0, Nat.zero_le _, rfl, fun i hi => absurd hi (by omega)⟩
    case round =>
      obtain ⟨k, hk, rfl, hno⟩ := hrel
      by_cases hlt : k < b
      · have hc := HC.out k (by omega)
        rw [pls_get (thAt xs) (show k < t by omega)] at hc
        have hkt : (k : Int) < t := by omega
        have HN := Lib.hid hno
        clear hno
        by_cases h1 : plr (thAt xs) k = p
        · have hs : p < (pls (thAt xs) b).2 := (seen_iff (thAt_endless HV.out) b hp).1 ⟨k, hlt, h1⟩
          have HS : Hid (chr (thAt xs) b p = 124) := by show _ = _; rw [HR.out, if_pos hs]
          have heq : (plr (thAt xs) k == p) = true := by simpa using h1
          clear hs
          generalize plr (thAt xs) k = z at *
          subst h1
          go_wp2
          go_ret
          exact ⟨ret_int HS.out.symm, rfl⟩
        · have HN2 : Hid (∀ i, i < k + 1 → ¬ plr (thAt xs) i = p) := fun i hi => by
            by_cases e : i = k
            · rw [e]; exact h1
            · exact HN.out i (by omega)
          have heq : (plr (thAt xs) k == p) = false := by simpa using h1
          clear h1
          generalize plr (thAt xs) k = z at *
          go_wp2
          go_round
          case rel => exact ⟨k + 1, by omega, by go_num, HN2.out⟩
          case measure => simp [intOf]; omega
      · obtain rfl : k = b := by omega
        have hs : ¬ p < (pls (thAt xs) k).2 := fun h => by
          obtain ⟨i, hi, hq⟩ := (seen_iff (thAt_endless HV.out) k hp).2 h
          exact hno i hi hq
        have HS : Hid (chr (thAt xs) k p = 46) := by show _ = _; rw [HR.out, if_neg hs]
        clear hs hno
        go_wp2
        go_ret
        exact ⟨ret_int HS.out.symm, rfl⟩
end Go.Proofs.Ytpnhpkgcaadnkaa
