/- The props of a pattern are held or fly: plain laws of thAt, hin. No program. -/
import Derived.Test.YtbldhfmhipdniaaJug
import Derived.Test.YtbldhfmhipdniaaFtm
namespace Go.Proofs.Ytbldhfmhipdniaa
set_option linter.unusedVariables false
set_option linter.unusedSimpArgs false

theorem thAt_per {xs : List Int} (b : Int) : thAt xs (b + xs.length) = thAt xs b := by
  unfold thAt
  rw [Int.add_emod_right]
theorem thAt_endless {xs : List Int} (hv : vpat xs = true) : Endless (thAt xs) xs.length := by
  obtain ⟨h1, h2, h3⟩ := thr_iff.1 (vpat_thr hv)
  refine ⟨thAt_bd hv, thAt_per, fun a b hab => ?_, by omega⟩
  have hc : NoClash xs xs.length := by
    unfold vpat at hv
    rw [Bool.and_eq_true] at hv
    exact of_decide_eq_true hv.2
  have hn : (0 : Int) < xs.length := by omega
  have key : ∀ c : Int, lnd xs (c % (xs.length : Int)).toNat = (c + thAt xs c) % (xs.length : Int) := fun c => by
    have h0 := Int.emod_nonneg c (show (xs.length : Int) ≠ 0 by omega)
    unfold lnd thAt
    rw [Int.toNat_of_nonneg h0, Int.emod_add_emod]
  have hl : lnd xs (a % (xs.length : Int)).toNat = lnd xs (b % (xs.length : Int)).toNat := by rw [key, key, hab]
  have a0 := Int.emod_nonneg a (show (xs.length : Int) ≠ 0 by omega)
  have a1 := Int.emod_lt_of_pos a hn
  have b0 := Int.emod_nonneg b (show (xs.length : Int) ≠ 0 by omega)
  have b1 := Int.emod_lt_of_pos b hn
  have he : (a % (xs.length : Int)).toNat = (b % (xs.length : Int)).toNat := by
    rcases Nat.lt_trichotomy (a % (xs.length : Int)).toNat (b % (xs.length : Int)).toNat with hlt | he | hlt
    · exact absurd hl (hc _ (by omega) _ hlt)
    · exact he
    · exact absurd hl.symm (hc _ (by omega) _ hlt)
  have ht : thAt xs a = thAt xs b := by unfold thAt; rw [he]
  omega
theorem acc_sm (xs : List Int) (k : Nat) : acc fSum xs k = sm (fun i => xs[i]?.getD 0) k := by
  induction k with
  | zero => rfl
  | succ k ih => simp only [acc, sm]; rw [ih]; rfl
/-- The average throw is the number of props. -/
theorem prp_crs {xs : List Int} (hv : vpat xs = true) (q : Int) : prp xs = crs (thAt xs) q := by
  obtain ⟨h1, h2, h3⟩ := thr_iff.1 (vpat_thr hv)
  have h := crs_avg (thAt_endless hv) q
  unfold prp
  rw [acc_sm, sm_congr (g := fun i => thAt xs i) (fun i hi => thAt_nat hi), ← h]
  exact Int.mul_ediv_cancel _ (by omega)
theorem sum_prp {xs : List Int} (hv : vpat xs = true) : acc fSum xs xs.length = prp xs * xs.length := by
  rw [prp_crs hv 0, crs_avg (thAt_endless hv), acc_sm]
  exact sm_congr fun i hi => thAt_nat hi
theorem sm_rev (f : Nat → Int) (k : Nat) : sm (fun i => f (k - 1 - i)) k = sm f k := by
  induction k with
  | zero => rfl
  | succ k ih =>
    rw [sm_head]
    simp only [sm]
    rw [← ih, Int.add_comm]
    congr 1
    exact sm_congr fun i hi => by rw [show k + 1 - 1 - (i + 1) = k - 1 - i by omega]
theorem fits_at {xs : List Int} {b d : Int} (hv : vpat xs = true) (hf : fits xs b d = true) (z : Int) (h0 : 0 < thAt xs z) : 1 ≤ thAt xs z * b - d := by
  obtain ⟨h1, h2, h3⟩ := thr_iff.1 (vpat_thr hv)
  have e1 := Int.emod_nonneg z (show (xs.length : Int) ≠ 0 by omega)
  have e2 := Int.emod_lt_of_pos z (show 0 < (xs.length : Int) by omega)
  rcases Int.lt_or_le (thAt xs z * b - d) 1 with h | h
  · have := fits_no (xs := xs) (b := b) (d := d) (k := (z % (xs.length : Int)).toNat) (by omega) h0 h
    rw [hf] at this
    cases this
  · exact h
/-- The prop that is thrown at the beat z flies at the tick. -/
def aInd (xs : List Int) (b d t z : Int) : Int := if 0 < thAt xs z ∧ t < (z + thAt xs z) * b - d then 1 else 0
/-- How many fly out of those that are thrown at the first j beats from q on. -/
def aCnt (xs : List Int) (b d t q : Int) : Nat → Int
  | 0 => 0
  | j + 1 => aCnt xs b d t q j + aInd xs b d t (q + j)
theorem aInd_bd (xs : List Int) (b d t z : Int) : 0 ≤ aInd xs b d t z ∧ aInd xs b d t z ≤ 1 := by unfold aInd; split <;> omega
theorem aCnt_bd (xs : List Int) (b d t q : Int) (j : Nat) : 0 ≤ aCnt xs b d t q j ∧ aCnt xs b d t q j ≤ j := by
  induction j with
  | zero => simp [aCnt]
  | succ j ih =>
    have h := aInd_bd xs b d t (q + j)
    simp only [aCnt]
    omega
theorem aCnt_sm (xs : List Int) (b d t q : Int) (k : Nat) : aCnt xs b d t q k = sm (fun i => aInd xs b d t (q + i)) k := by
  induction k with
  | zero => rfl
  | succ k ih => simp only [aCnt, sm]; rw [ih]
theorem mul_lt_lt {a c b : Int} (hb : 0 < b) (h : a * b < c * b) : a < c := by
  rcases Int.lt_or_le a c with h' | h'
  · exact h'
  · have := Int.mul_le_mul_of_nonneg_right h' (show 0 ≤ b by omega)
    omega
/-- All props are held or fly. -/
theorem air_hin {xs : List Int} {b d t : Int} (hv : vpat xs = true) (hb : 2 ≤ b ∧ b ≤ 30) (hd : 1 ≤ d ∧ d ≤ 2 * b) (hf : fits xs b d = true) (ht : 0 ≤ t ∧ t ≤ 3000) :
    aCnt xs b d t (t / b - 15) 16 = prp xs - hin xs b d t := by
  have en := thAt_endless hv
  obtain ⟨hq, hq1, hq2⟩ := beat_bd hb ht
  have hth := thAt_bd hv
  generalize hQ : t / b = q at *
  rw [prp_crs hv q]
  have z0 := zb_eq q b 0 (by omega)
  have z1 := zb_eq q b 1 (by omega)
  have z2 := zb_eq q b 2 (by omega)
  have z3 := zb_eq q b 3 (by omega)
  simp at z0 z1 z2 z3
  -- the holds
  have hH : hin xs b d t = ind (0 < thAt xs (q + 1) ∧ (q + 1) * b - d ≤ t) + ind (0 < thAt xs (q + 2) ∧ (q + 2) * b - d ≤ t) := by
    unfold hin
    rw [hQ]
    simp only [hCnt]
    rw [show q + ((0 : Nat) : Int) = q by omega, show q + ((1 : Nat) : Int) = q + 1 by omega, show q + ((2 : Nat) : Int) = q + 2 by omega, show q + ((3 : Nat) : Int) = q + 3 by omega]
    rw [hInd_zero (z := q) (by omega), hInd_zero (z := q + 3) (by omega)]
    have k1 : hInd xs b d t (q + 1) = ind (0 < thAt xs (q + 1) ∧ (q + 1) * b - d ≤ t) := by
      unfold hInd
      exact ind_congr (p := 0 < thAt xs (q + 1) ∧ (q + 1) * b - d ≤ t ∧ t < (q + 1) * b) ⟨fun h => ⟨h.1, h.2.1⟩, fun h => ⟨h.1, h.2, by omega⟩⟩
    have k2 : hInd xs b d t (q + 2) = ind (0 < thAt xs (q + 2) ∧ (q + 2) * b - d ≤ t) := by
      unfold hInd
      exact ind_congr (p := 0 < thAt xs (q + 2) ∧ (q + 2) * b - d ≤ t ∧ t < (q + 2) * b) ⟨fun h => ⟨h.1, h.2.1⟩, fun h => ⟨h.1, h.2, by omega⟩⟩
    rw [k1, k2]
    omega
  -- the flights
  have hA : aCnt xs b d t (q - 15) 16 = sm (fun i => ind (thAt xs (q - i) > i ∧ t < (q - i + thAt xs (q - i)) * b - d)) 16 := by
    rw [aCnt_sm, ← sm_rev (fun i => ind (thAt xs (q - i) > i ∧ t < (q - i + thAt xs (q - i)) * b - d)) 16]
    apply sm_congr
    intro i hi
    have e0 : q - ((16 - 1 - i : Nat) : Int) = q - 15 + i := by omega
    show _ = ind (thAt xs (q - ((16 - 1 - i : Nat) : Int)) > ((16 - 1 - i : Nat) : Int) ∧ t < (q - ((16 - 1 - i : Nat) : Int) + thAt xs (q - ((16 - 1 - i : Nat) : Int))) * b - d)
    rw [e0]
    unfold aInd
    refine ind_congr (p := 0 < thAt xs (q - 15 + i) ∧ t < (q - 15 + i + thAt xs (q - 15 + i)) * b - d) ⟨fun h => ⟨?_, h.2⟩, fun h => ⟨by omega, h.2⟩⟩
    have := mul_lt_lt (a := q) (c := q - 15 + i + thAt xs (q - 15 + i)) (b := b) (by omega) (by omega)
    omega
  -- each throw in the air lands at the next beats, or flies
  have hL : crs (thAt xs) q = sm (fun i => ind (thAt xs (q - i) > i ∧ t < (q - i + thAt xs (q - i)) * b - d)) 16 + (sm (fun i => ind (thAt xs (q - i) = i + 1 ∧ (q + 1) * b - d ≤ t)) 16 + sm (fun i => ind (thAt xs (q - i) = i + 2 ∧ (q + 2) * b - d ≤ t)) 16) := by
    unfold crs
    rw [← sm_add, ← sm_add]
    apply sm_congr
    intro i hi
    by_cases h1 : thAt xs (q - i) > i
    · rw [ind_pos h1]
      by_cases h2 : t < (q - i + thAt xs (q - i)) * b - d
      · rw [ind_pos (p := thAt xs (q - i) > i ∧ t < (q - i + thAt xs (q - i)) * b - d) ⟨h1, h2⟩, ind_neg, ind_neg]
        · rfl
        · rintro ⟨h3, h4⟩
          rw [show q - (i : Int) + thAt xs (q - i) = q + 2 by omega] at h2
          omega
        · rintro ⟨h3, h4⟩
          rw [show q - (i : Int) + thAt xs (q - i) = q + 1 by omega] at h2
          omega
      · rw [ind_neg (p := thAt xs (q - i) > i ∧ t < (q - i + thAt xs (q - i)) * b - d) (fun h => h2 h.2)]
        have h5 : q - (i : Int) + thAt xs (q - i) < q + 3 := mul_lt_lt (b := b) (by omega) (by omega)
        by_cases h6 : thAt xs (q - i) = i + 1
        · rw [show q - (i : Int) + thAt xs (q - i) = q + 1 by omega] at h2
          rw [ind_pos ⟨h6, by omega⟩, ind_neg (fun h => by omega)]
          rfl
        · have h7 : thAt xs (q - i) = i + 2 := by omega
          rw [show q - (i : Int) + thAt xs (q - i) = q + 2 by omega] at h2
          rw [ind_neg (fun h => h6 h.1), ind_pos ⟨h7, by omega⟩]
          rfl
    · rw [ind_neg h1, ind_neg (fun h => h1 h.1), ind_neg (fun h => by omega), ind_neg (fun h => by omega)]
      rfl
  have hL1 : sm (fun i => ind (thAt xs (q - i) = i + 1 ∧ (q + 1) * b - d ≤ t)) 16 = ind (0 < thAt xs (q + 1) ∧ (q + 1) * b - d ≤ t) := by
    by_cases hc : (q + 1) * b - d ≤ t
    · rw [ind_congr (p := 0 < thAt xs (q + 1) ∧ (q + 1) * b - d ≤ t) (q := thAt xs (q + 1) > 0) ⟨fun h => h.1, fun h => ⟨h, hc⟩⟩, ← lan_eq en (q + 1)]
      unfold lan
      refine sm_congr fun i _ => ind_congr ?_
      rw [show q + 1 - 1 - (i : Int) = q - i by omega]
      exact ⟨fun h => h.1, fun h => ⟨h, hc⟩⟩
    · rw [ind_neg (fun h => hc h.2)]
      exact sm_zero fun i _ => ind_neg (fun h => hc h.2)
  have hL2 : sm (fun i => ind (thAt xs (q - i) = i + 2 ∧ (q + 2) * b - d ≤ t)) 16 = ind (0 < thAt xs (q + 2) ∧ (q + 2) * b - d ≤ t) := by
    by_cases hc : (q + 2) * b - d ≤ t
    · rw [ind_congr (p := 0 < thAt xs (q + 2) ∧ (q + 2) * b - d ≤ t) (q := thAt xs (q + 2) > 0) ⟨fun h => h.1, fun h => ⟨h, hc⟩⟩, ← lan_eq en (q + 2)]
      have hone : ¬ thAt xs (q + 1) = 1 := by
        intro h1
        have := fits_at hv hf (q + 1) (by omega)
        rw [h1] at this
        omega
      have e0 : lan (thAt xs) (q + 2) = ind (thAt xs (q + 2 - 1 - ((0 : Nat) : Int)) = ((0 : Nat) : Int) + 1) + sm (fun i => ind (thAt xs (q + 2 - 1 - ((i + 1 : Nat) : Int)) = ((i + 1 : Nat) : Int) + 1)) 15 := sm_head (fun i => ind (thAt xs (q + 2 - 1 - (i : Int)) = (i : Int) + 1)) 15
      rw [show q + 2 - 1 - ((0 : Nat) : Int) = q + 1 by omega, ind_neg (p := thAt xs (q + 1) = ((0 : Nat) : Int) + 1) (by omega)] at e0
      have e1 : sm (fun i => ind (thAt xs (q - i) = i + 2 ∧ (q + 2) * b - d ≤ t)) 16 = sm (fun i => ind (thAt xs (q - i) = i + 2 ∧ (q + 2) * b - d ≤ t)) 15 + ind (thAt xs (q - ((15 : Nat) : Int)) = ((15 : Nat) : Int) + 2 ∧ (q + 2) * b - d ≤ t) := rfl
      have h15 := hth (q - ((15 : Nat) : Int))
      rw [ind_neg (p := thAt xs (q - ((15 : Nat) : Int)) = ((15 : Nat) : Int) + 2 ∧ (q + 2) * b - d ≤ t) (by omega)] at e1
      rw [e0, e1, Int.add_zero, Int.zero_add]
      refine sm_congr fun i _ => ind_congr ?_
      rw [show q + 2 - 1 - ((i + 1 : Nat) : Int) = q - i by omega]
      exact ⟨fun h => by omega, fun h => ⟨by omega, hc⟩⟩
    · rw [ind_neg (fun h => hc h.2)]
      exact sm_zero fun i _ => ind_neg (fun h => hc h.2)
  rw [hA, hH, hL, hL1, hL2]
  omega
end Go.Proofs.Ytbldhfmhipdniaa
