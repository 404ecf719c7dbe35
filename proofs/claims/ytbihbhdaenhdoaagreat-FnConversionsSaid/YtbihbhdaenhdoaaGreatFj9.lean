/- MM Mea in one text (a claim has at most 60 files). No condition but the stated bounds. -/
import Derived.Test.YtbihbhdaenhdoaaGreatExt
import Derived.Test.YtbihbhdaenhdoaaGreatCla
import Derived.WalkLawsBesides
namespace Go.Proofs.YtbihbhdaenhdoaaGreat
set_option linter.unusedVariables false
set_option linter.unusedSimpArgs false
open Go.RowKit

def cmf (a b : Int) : Int := if b > a then b else a
def cml (a b : Int) : Int := if b < a then b else a
theorem cmf_bd {a b lo hi : Int} (h : lo ≤ a ∧ a ≤ hi) (h' : lo ≤ b ∧ b ≤ hi) : lo ≤ cmf a b ∧ cmf a b ≤ hi := by unfold cmf; split <;> omega
theorem cml_bd {a b lo hi : Int} (h : lo ≤ a ∧ a ≤ hi) (h' : lo ≤ b ∧ b ≤ hi) : lo ≤ cml a b ∧ cml a b ≤ hi := by unfold cml; split <;> omega
theorem cmf_pos {a b : Int} (h : a < b) : cmf a b = b := if_pos h
theorem cmf_neg {a b : Int} (h : ¬ a < b) : cmf a b = a := if_neg h
theorem cml_pos {a b : Int} (h : b < a) : cml a b = b := if_pos h
theorem cml_neg {a b : Int} (h : ¬ b < a) : cml a b = a := if_neg h
end Go.Proofs.YtbihbhdaenhdoaaGreat

namespace Go.Proofs.YtbihbhdaenhdoaaGreat
set_option linter.unusedVariables false
set_option linter.unusedSimpArgs false
open Go.RowKit

/-- The sum of f over the first k numbers. -/
def acc (f : Int → Int) (xs : List Int) : Nat → Int
  | 0 => 0
  | k + 1 => acc f xs k + f (xs[k]?.getD 0)
theorem acc_bd {f : Int → Int} {xs : List Int} (M : Int) {k : Nat} (hM : 0 ≤ M) (h : ∀ i, i < k → 0 ≤ f (xs[i]?.getD 0) ∧ f (xs[i]?.getD 0) ≤ M) : 0 ≤ acc f xs k ∧ acc f xs k ≤ M * k := by
  induction k with
  | zero => simp [acc]
  | succ k ih =>
    have h1 := ih (fun i hi => h i (by omega))
    have h2 := h k (by omega)
    have e : M * ((k + 1 : Nat) : Int) = M * (k : Int) + M := by rw [Int.natCast_add, Int.mul_add]; simp
    simp only [acc]
    rw [e]
    omega
/-- A fold over the first k numbers. -/
def fold (g : Int → Int → Int) (s : Int) (xs : List Int) : Nat → Int
  | 0 => s
  | k + 1 => g (fold g s xs k) (xs[k]?.getD 0)
def hig (xs : List Int) (k : Nat) : Int := fold cmf 0 xs k
def lowg (xs : List Int) (k : Nat) : Int := fold cml ((xs[(0 : Nat)]?).getD (0 : Int)) xs k
theorem hig_bd {xs : List Int} {k : Nat} (h : ∀ i, i < k → 0 ≤ xs[i]?.getD 0 ∧ xs[i]?.getD 0 ≤ 15) : 0 ≤ hig xs k ∧ hig xs k ≤ 15 := by
  unfold hig
  induction k with
  | zero => simp [fold]
  | succ k ih =>
    have h1 := ih (fun i hi => h i (by omega))
    have h2 := h k (by omega)
    exact cmf_bd h1 h2
theorem lowg_bd {xs : List Int} {k : Nat} (h0 : 0 ≤ (xs[(0 : Nat)]?).getD (0 : Int) ∧ (xs[(0 : Nat)]?).getD (0 : Int) ≤ 15) (h : ∀ i, i < k → 0 ≤ xs[i]?.getD 0 ∧ xs[i]?.getD 0 ≤ 15) : 0 ≤ lowg xs k ∧ lowg xs k ≤ 15 := by
  unfold lowg
  induction k with
  | zero => exact h0
  | succ k ih =>
    have h1 := ih (fun i hi => h i (by omega))
    have h2 := h k (by omega)
    exact cml_bd h1 h2
def fEmpty (x : Int) : Int := if x == 0 then 1 else 0
def fThrown (x : Int) : Int := if 0 < x then 1 else 0
def fWork (x : Int) : Int := if 2 < x then (x - 1) * (x - 1) else 0
def fSum (x : Int) : Int := x
def fSwing (m x : Int) : Int := (x - m) * (x - m)
theorem acc_empty_bd (xs : List Int) (k : Nat) : 0 ≤ acc fEmpty xs k ∧ acc fEmpty xs k ≤ k := by
  have := acc_bd (f := fEmpty) (xs := xs) 1 (k := k) (by omega) (fun i _ => by unfold fEmpty; split <;> omega)
  omega
theorem acc_thrown_bd (xs : List Int) (k : Nat) : 0 ≤ acc fThrown xs k ∧ acc fThrown xs k ≤ k := by
  have := acc_bd (f := fThrown) (xs := xs) 1 (k := k) (by omega) (fun i _ => by unfold fThrown; split <;> omega)
  omega
theorem acc_sum_bd {xs : List Int} {k : Nat} (h : ∀ i, i < k → 0 ≤ xs[i]?.getD 0 ∧ xs[i]?.getD 0 ≤ 15) : 0 ≤ acc fSum xs k ∧ acc fSum xs k ≤ 15 * k := acc_bd 15 (by omega) h
theorem acc_work_bd {xs : List Int} {k : Nat} (h : ∀ i, i < k → 0 ≤ xs[i]?.getD 0 ∧ xs[i]?.getD 0 ≤ 15) : 0 ≤ acc fWork xs k ∧ acc fWork xs k ≤ 225 * k :=
  acc_bd 225 (by omega) (fun i hi => by
    have h1 := h i hi
    unfold fWork
    split
    · have h2 := Int.mul_nonneg (show 0 ≤ xs[i]?.getD 0 - 1 by omega) (show 0 ≤ xs[i]?.getD 0 - 1 by omega)
      have h3 := Int.mul_le_mul (show xs[i]?.getD 0 - 1 ≤ 15 by omega) (show xs[i]?.getD 0 - 1 ≤ 15 by omega) (by omega) (by omega)
      omega
    · omega)
theorem vpat_thr {xs : List Int} (h : vpat xs = true) : thr xs = true := by
  unfold vpat at h
  rw [Bool.and_eq_true] at h
  exact h.1
set_option maxHeartbeats 1000000 in
theorem l02Sum_any (A : Option Addr) (n c : Nat) (xs : List Int) (w : World) (hI : Ints w A n xs) (hv : vpat xs = true) :
    Calls Tryz.prog 80 #[.slice A n c] w fun e w' => e = .returned (.int .i64 (acc fSum xs n)) ∧ w = w' := by
  obtain ⟨hb1, hb2, hb3⟩ := thr_iff.1 (vpat_thr hv)
  rw [hI.len] at hb1 hb2 hb3
  have hb1 := Lib.hid hb1
  go_enter Tryz.func80, Tryz.ntmps80
  go_wp2_with (first | fail)
  go_loop [3, 4] (fun s i => ∃ k : Nat, 0 ≤ k ∧ k ≤ n ∧ i = .int .i64 k ∧ s = .int .i64 (acc fSum xs k)) (fun _ i => n - (intOf i).toNat)
  case atStart => exact ⟨0, by omega, by omega, rfl, rfl⟩
  case round =>
    obtain ⟨k, hk0, hk, rfl, rfl⟩ := hrel
    have hbd := acc_sum_bd (xs := xs) (k := k) (fun i hi => hb1.out i (by omega))
    by_cases hlt : k < n
    · obtain ⟨b, off, hA, hb, hcell⟩ := hI.at_ (by omega)
      first | subst hA | (injection hA with hA; injection hA with hA1 hA2; subst hA1; subst hA2)
      have hc := hcell k hlt
      have hbk := hb1.out k hlt
      have ik : (k : Int) < n := by omega
      clear hcell
      have hx := True.intro
      · have HS : Hid (acc fSum xs (k + 1) = acc fSum xs k + xs[k]?.getD 0) := by show _ = _; rfl
        go_wp2_with (first | fail)
        go_round
        case rel => exact ⟨k + 1, by omega, by omega, by go_num, by rw [HS.out]⟩
        case measure => simp [intOf]; omega
    · obtain rfl : k = n := by omega
      go_wp2_with (first | fail)
      go_ret
      exact ⟨rfl, rfl⟩
set_option maxHeartbeats 1000000 in
theorem propsOf_any (A : Option Addr) (n c : Nat) (xs : List Int) (w : World) (hI : Ints w A n xs) (hv : vpat xs = true) :
    Calls Tryz.prog 79 #[.slice A n c] w fun e w' => e = .returned (.int .i64 (acc fSum xs n / n)) ∧ w = w' := by
  obtain ⟨hb1, hb2, hb3⟩ := thr_iff.1 (vpat_thr hv)
  rw [hI.len] at hb1 hb2 hb3
  have hb1 := Lib.hid hb1
  go_enter Tryz.func79, Tryz.ntmps79
  go_wp2_with (first | (go_at_call 110; (with_reducible refine (period_any _ _ _ _).mono ?_); rintro e w' ⟨rfl, rfl⟩))
  go_loop [3, 8] (fun s i => ∃ k : Nat, 0 ≤ k ∧ k ≤ n ∧ i = .int .i64 k ∧ s = .int .i64 (acc fSum xs k)) (fun _ i => n - (intOf i).toNat)
  case atStart => exact ⟨0, by omega, by omega, rfl, rfl⟩
  case round =>
    obtain ⟨k, hk0, hk, rfl, rfl⟩ := hrel
    have hbd := acc_sum_bd (xs := xs) (k := k) (fun i hi => hb1.out i (by omega))
    by_cases hlt : k < n
    · obtain ⟨b, off, hA, hb, hcell⟩ := hI.at_ (by omega)
      first | subst hA | (injection hA with hA; injection hA with hA1 hA2; subst hA1; subst hA2)
      have hc := hcell k hlt
      have hbk := hb1.out k hlt
      have ik : (k : Int) < n := by omega
      clear hcell
      have hx := True.intro
      · have HS : Hid (acc fSum xs (k + 1) = acc fSum xs k + xs[k]?.getD 0) := by show _ = _; rfl
        go_wp2_with (first | (go_at_call 110; (with_reducible refine (period_any _ _ _ _).mono ?_); rintro e w' ⟨rfl, rfl⟩))
        go_round
        case rel => exact ⟨k + 1, by omega, by omega, by go_num, by rw [HS.out]⟩
        case measure => simp [intOf]; omega
    · obtain rfl : k = n := by omega
      go_wp2_with (first | (go_at_call 110; (with_reducible refine (period_any _ _ _ _).mono ?_); rintro e w' ⟨rfl, rfl⟩))
      go_ret
      exact ⟨rfl, rfl⟩
/-- The throw at a beat. -/
def thAt (xs : List Int) (b : Int) : Int := (xs[(b % (xs.length : Int)).toNat]?).getD 0
theorem thAt_bd {xs : List Int} (h : vpat xs = true) (b : Int) : 0 ≤ thAt xs b ∧ thAt xs b ≤ 15 := by
  obtain ⟨h1, h2, h3⟩ := thr_iff.1 (vpat_thr h)
  have e1 := Int.emod_nonneg b (show (xs.length : Int) ≠ 0 by omega)
  have e2 := Int.emod_lt_of_pos b (show 0 < (xs.length : Int) by omega)
  exact h1 _ (by omega)
/-- The number of props. -/
def prp (xs : List Int) : Int := acc fSum xs xs.length / (xs.length : Int)
theorem prp_bd {xs : List Int} (h : vpat xs = true) : 0 ≤ prp xs ∧ prp xs ≤ 15 := by
  obtain ⟨h1, h2, h3⟩ := thr_iff.1 (vpat_thr h)
  have hb := acc_sum_bd (xs := xs) (k := xs.length) h1
  unfold prp
  constructor
  · exact Int.ediv_nonneg hb.1 (by omega)
  · exact Int.ediv_le_of_le_mul (by omega) hb.2
theorem acc_swing_bd {xs : List Int} {m : Int} {k : Nat} (hm : 0 ≤ m ∧ m ≤ 15) (h : ∀ i, i < k → 0 ≤ xs[i]?.getD 0 ∧ xs[i]?.getD 0 ≤ 15) : 0 ≤ acc (fSwing m) xs k ∧ acc (fSwing m) xs k ≤ 225 * k :=
  acc_bd 225 (by omega) (fun i hi => by
    have h1 := h i hi
    have h2 := mul_bd (a := xs[i]?.getD 0 - m) (b := xs[i]?.getD 0 - m) (A := 15) (B := 15) (by omega) (by omega)
    have h3 : 0 ≤ (xs[i]?.getD 0 - m) * (xs[i]?.getD 0 - m) := by rw [← Int.natAbs_mul_self]; exact Int.natCast_nonneg _
    unfold fSwing
    omega)
theorem thAt_nat {xs : List Int} {k : Nat} (hk : k < xs.length) : xs[k]?.getD 0 = thAt xs k := by
  unfold thAt
  rw [Int.emod_eq_of_lt (by omega) (by omega)]
  rfl
/-- How often throws differ from the ones before them. -/
def chg (xs : List Int) : Nat → Int
  | 0 => 0
  | k + 1 => chg xs k + if thAt xs k == thAt xs ((k : Int) - 1) then 0 else 1
theorem chg_bd (xs : List Int) (k : Nat) : 0 ≤ chg xs k ∧ chg xs k ≤ k := by
  induction k with
  | zero => simp [chg]
  | succ k ih =>
    simp only [chg]
    split <;> omega
theorem l02Props_any (A : Option Addr) (n c : Nat) (xs : List Int) (w : World) (hI : Ints w A n xs) (hv : vpat xs = true) :
    Calls Tryz.prog 37 #[.slice A n c] w fun e w' => e = .returned (.int .i64 (prp xs)) ∧ w = w' := by
  obtain ⟨h1, h2, h3⟩ := thr_iff.1 (vpat_thr hv)
  have hb := acc_sum_bd (xs := xs) (k := xs.length) h1
  rw [hI.len] at h1 h2 h3 hb
  have HR : Hid (acc fSum xs n / (n : Int) = prp xs) := by show _ = _; unfold prp; rw [hI.len]
  have h1 := Lib.hid h1
  go_enter Tryz.func37, Tryz.ntmps37
  go_wp2_with (first | (go_at_call 80; (with_reducible refine (l02Sum_any _ _ _ xs _ hI hv).mono ?_); rintro e w' ⟨rfl, rfl⟩))
  go_ret
  exact ⟨ret_int HR.out, rfl⟩
theorem propsOf_is (A : Option Addr) (n c : Nat) (xs : List Int) (w : World) (hI : Ints w A n xs) (hv : vpat xs = true) :
    Calls Tryz.prog 79 #[.slice A n c] w fun e w' => e = .returned (.int .i64 (prp xs)) ∧ w = w' := by
  have h := propsOf_any A n c xs w hI hv
  rw [show prp xs = acc fSum xs n / (n : Int) by unfold prp; rw [hI.len]]
  exact h
end Go.Proofs.YtbihbhdaenhdoaaGreat
