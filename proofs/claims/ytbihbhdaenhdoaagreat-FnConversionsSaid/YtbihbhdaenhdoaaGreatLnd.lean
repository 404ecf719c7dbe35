/- The landings of a list of throws, and whether they differ. Contracts of landings. No condition but the stated bounds. -/
import Derived.Test.YtbihbhdaenhdoaaGreatPat
import Derived.OwnWalk
import Derived.Outline
namespace Go.Proofs.YtbihbhdaenhdoaaGreat
set_option linter.unusedVariables false
set_option linter.unusedSimpArgs false
open Go.RowKit

/-- Where the throw i lands, by the period. -/
def lnd (xs : List Int) (i : Nat) : Int := ((i : Int) + xs[i]?.getD 0) % (xs.length : Int)
def lnds (xs : List Int) (k : Nat) : List Int := (List.range k).map (lnd xs)
theorem lnds_len (xs : List Int) (k : Nat) : (lnds xs k).length = k := by simp [lnds]
theorem lnds_succ (xs : List Int) (k : Nat) : lnds xs (k + 1) = lnds xs k ++ [lnd xs k] := by simp [lnds, List.range_succ]
theorem lnds_get {xs : List Int} {k i : Nat} (h : i < k) : (lnds xs k)[i]?.getD 0 = lnd xs i := by simp [lnds, h]
theorem lnd_bd {xs : List Int} (i : Nat) (h : 1 ≤ xs.length) (h2 : xs.length ≤ 12) : 0 ≤ lnd xs i ∧ lnd xs i ≤ 12 := by
  unfold lnd
  have h1 := Int.emod_nonneg ((i : Int) + xs[i]?.getD 0) (show (xs.length : Int) ≠ 0 by omega)
  have h3 := Int.emod_lt_of_pos ((i : Int) + xs[i]?.getD 0) (show 0 < (xs.length : Int) by omega)
  omega
theorem period_any (A : Option Addr) (n c : Nat) (w : World) : Calls Tryz.prog 110 #[.slice A n c] w fun e w' => e = .returned (.int .i64 (n : Int)) ∧ w = w' := by
  go_enter Tryz.func110, Tryz.ntmps110
  go_wp2
  go_ret
  exact ⟨rfl, rfl⟩
set_option maxHeartbeats 400000 in
theorem landings_any (A : Option Addr) (n c : Nat) (xs : List Int) (w : World) (hI : Ints w A n xs) (ht : thr xs = true) :
    Calls Tryz.prog 116 #[.slice A n c] w (RetInts w (lnds xs n)) := by
  obtain ⟨hb1, hb2, hb3⟩ := thr_iff.1 ht
  rw [hI.len] at hb2 hb3
  obtain ⟨i0, hi, hz0, hz1, hz2⟩ := info_parts infoInt
  go_enter Tryz.func116, Tryz.ntmps116
  go_wp2
  go_loopw [3, 9] (fun v i wr => ∃ k : Nat, k ≤ n ∧ i = .int .i64 k ∧ Own w wr v (lnds xs k)) (fun _ i _ => n - (intOf i).toNat)
  case atStart => exact ⟨0, Nat.zero_le _, rfl, own_empty (Ext.refl _)⟩
  case round =>
    obtain ⟨k, hk, rfl, hown⟩ := hrel
    by_cases hlt : k < n
    · obtain ⟨b, off, rfl, hb, hcell⟩ := (hI.ext hown.ext).at_ (by omega)
      have hc := hcell k hlt
      have hbd := hb1 k (by rw [hI.len]; exact hlt)
      have hy : ((k : Int) + xs[k]?.getD 0) % (n : Int) = lnd xs k := by unfold lnd; rw [hI.len]
      have hlen : (lnds xs k).length ≤ 1000000 := by rw [lnds_len]; omega
      clear hcell
      go_wp2_with (first | (go_at_call 110; (with_reducible refine (period_any _ _ _ _).mono ?_); rintro e w' ⟨rfl, rfl⟩) | (at_builtin; refine app1 rfl _ _ rfl _ _ _ rfl hown rfl hlen ?_; intro v' w1 hown'))
      go_roundw
      case rel => exact ⟨k + 1, by omega, by go_num, by rw [lnds_succ]; exact hown'⟩
      case measure => simp [intOf]; omega
    · obtain rfl : k = n := by omega
      obtain ⟨A1, c1, rfl⟩ := hown.forms
      go_wp2
      go_ret
      exact ⟨_, _, rfl, hown⟩
end Go.Proofs.YtbihbhdaenhdoaaGreat
