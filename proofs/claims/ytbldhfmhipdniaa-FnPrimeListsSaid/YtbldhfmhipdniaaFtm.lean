/- For how many ticks props fly: contracts of FlightTimes. No condition but the stated bounds. -/
import Derived.Test.YtbldhfmhipdniaaTcd
import Derived.Test.YtbldhfmhipdniaaRow
import Derived.Deep.RegionHeld3
namespace Go.Proofs.Ytbldhfmhipdniaa
set_option linter.unusedVariables false
set_option linter.unusedSimpArgs false
open Go.RowKit

theorem Own.rebase {w w1 w' : World} {v : Value} {ys : List Int} (h : Own w1 w' v ys) (k : Ext w w1) : Own w w' v ys :=
  ⟨Go.Joins.ownsRow_le h.own k.size, k.trans h.ext⟩
theorem vtim_iff {b d : Int} : vtim b d = true ↔ (2 ≤ b ∧ b ≤ 30) ∧ (1 ≤ d ∧ d ≤ 2 * b) := by
  unfold vtim
  rw [Bool.and_eq_true, btw_iff, btw_iff]
/-- For how many ticks a throw flies. -/
def ftm (b d x : Int) : Int := if 0 < x then x * b - d else 0
def ftms (xs : List Int) (b d : Int) (k : Nat) : List Int := (List.range k).map (fun i => ftm b d (xs[i]?.getD 0))
theorem ftms_len (xs : List Int) (b d : Int) (k : Nat) : (ftms xs b d k).length = k := by simp [ftms]
theorem ftms_succ (xs : List Int) (b d : Int) (k : Nat) : ftms xs b d (k + 1) = ftms xs b d k ++ [ftm b d (xs[k]?.getD 0)] := by simp [ftms, List.range_succ]
/-- What FlightTimes gives. -/
def ftn (xs : List Int) (b d : Int) (n : Nat) : List Int := if tcd (vpat xs) (vtim b d && btw 0 0 0) (fits xs b d) = 0 then ftms xs b d n else []
theorem ftn_bd {xs : List Int} {b d : Int} {n : Nat} (hn : xs.length = n) : (ftn xs b d n).length ≤ n ∧ ∀ y ∈ ftn xs b d n, -9223372036854775808 ≤ y ∧ y ≤ 9223372036854775807 := by
  unfold ftn
  split
  · rename_i h
    obtain ⟨hv, ht, _⟩ := tcd_zero h
    rw [Bool.and_eq_true] at ht
    obtain ⟨hb, hd⟩ := vtim_iff.1 ht.1
    obtain ⟨hx, _, _⟩ := thr_iff.1 (vpat_thr hv)
    refine ⟨by rw [ftms_len]; omega, fun y hy => ?_⟩
    simp only [ftms, List.mem_map, List.mem_range] at hy
    obtain ⟨i, hi, rfl⟩ := hy
    have h1 := hx i (by omega)
    have h2 := prod_bd h1 hb
    unfold ftm
    split <;> omega
  · exact ⟨by simp, by simp⟩
theorem btw000 : btw 0 0 0 = true := by decide
end Go.Proofs.Ytbldhfmhipdniaa
