/- Plain laws of holds: what laws.FnHolds asks. No program in sight. -/
import Derived.Test.YtbaabghehpcjnaaHld
import Derived.Test.YtbaabghehpcjnaaHin
import Derived.Test.YtbaabghehpcjnaaHsh
namespace Go.Proofs.Ytbaabghehpcjnaa
set_option linter.unusedVariables false
set_option linter.unusedSimpArgs false
open Go.RowKit

/-- At most two props are held. -/
theorem hin_le {xs : List Int} {b d t : Int} (hb : 2 ≤ b ∧ b ≤ 30) (hd : 1 ≤ d ∧ d ≤ 2 * b) (ht : 0 ≤ t ∧ t ≤ 3000) : 0 ≤ hin xs b d t ∧ hin xs b d t ≤ 2 := by
  obtain ⟨_, h1, h2⟩ := beat_bd hb ht
  have h0 := hCnt_bd xs b d t (t / b) 4
  unfold hin
  refine ⟨h0.1, ?_⟩
  simp only [hCnt]
  have e0 : hInd xs b d t (t / b + (0 : Nat)) = 0 := by
    unfold hInd
    rw [if_neg]
    have e : (t / b + (0 : Nat)) * b = t / b * b := by simp
    rw [e]; omega
  have e3 : hInd xs b d t (t / b + (3 : Nat)) = 0 := by
    unfold hInd
    rw [if_neg]
    have e : (t / b + (3 : Nat)) * b = t / b * b + 3 * b := by simp [Int.add_mul]
    rw [e]; omega
  have b1 := hInd_bd xs b d t (t / b + (1 : Nat))
  have b2 := hInd_bd xs b d t (t / b + (2 : Nat))
  omega
/-- The beat of the j-th hold. -/
def hbt (xs : List Int) (b d : Int) (T j : Nat) : Int := (hrows xs b d T)[4 * j + 1]?.getD 0
theorem hrows_len (xs : List Int) (b d : Int) (k : Nat) : (hrows xs b d k).length = 4 * hcn xs k := by
  induction k with
  | zero => rfl
  | succ k ih =>
    simp only [hrows, hcn, List.length_append, ih, hrow]
    split <;> simp <;> omega
theorem hrows_at (xs : List Int) (b d : Int) (T : Nat) : ∀ j, j < hcn xs T → ((0 ≤ hbt xs b d T j ∧ hbt xs b d T j < T) ∧ ((hrows xs b d T)[4 * j]?.getD 0 = hbt xs b d T j % 2 ∧ (hrows xs b d T)[4 * j + 2]?.getD 0 = hbt xs b d T j * b - d ∧ (hrows xs b d T)[4 * j + 3]?.getD 0 = hbt xs b d T j * b)) ∧ ∀ i, i < j → hbt xs b d T i < hbt xs b d T j := by
  induction T with
  | zero => intro j hj; simp [hcn] at hj
  | succ T ih =>
    intro j hj
    have hl := hrows_len xs b d T
    have low : ∀ i o, i < hcn xs T → o < 4 → (hrows xs b d (T + 1))[4 * i + o]? = (hrows xs b d T)[4 * i + o]? := fun i o hi ho => by
      simp only [hrows]
      exact List.getElem?_append_left (by omega)
    have lowb : ∀ i, i < hcn xs T → hbt xs b d (T + 1) i = hbt xs b d T i := fun i hi => by unfold hbt; rw [low i 1 hi (by omega)]
    by_cases h1 : j < hcn xs T
    · obtain ⟨⟨⟨a1, a2⟩, a3, a4, a5⟩, a6⟩ := ih j h1
      rw [lowb j h1, show 4 * j = 4 * j + 0 from rfl, low j 0 h1 (by omega), low j 2 h1 (by omega), low j 3 h1 (by omega)]
      refine ⟨⟨⟨a1, by omega⟩, a3, a4, a5⟩, fun i hi => ?_⟩
      rw [lowb i (by omega)]
      exact a6 i hi
    · have hx : 0 < thAt xs T := by
        simp only [hcn] at hj
        split at hj
        · assumption
        · omega
      have hj2 : j = hcn xs T := by simp only [hcn] at hj; rw [if_pos hx] at hj; omega
      subst hj2
      have e : ∀ o, (hrows xs b d (T + 1))[4 * hcn xs T + o]? = [(T : Int) % 2, (T : Int), T * b - d, T * b][o]? := fun o => by
        simp only [hrows, hrow, if_pos hx]
        rw [List.getElem?_append_right (by omega), hl, Nat.add_sub_cancel_left]
      have eb : hbt xs b d (T + 1) (hcn xs T) = T := by unfold hbt; rw [e 1]; rfl
      rw [eb, show 4 * hcn xs T = 4 * hcn xs T + 0 from rfl, e 0, e 2, e 3]
      refine ⟨⟨⟨by omega, by omega⟩, rfl, rfl, rfl⟩, fun i hi => ?_⟩
      rw [lowb i hi]
      exact (ih i hi).1.1.2
/-- What is known of the last hold of a hand. -/
def LastOf (xs : List Int) (b d : Int) (T i : Nat) (h l : Int) : Prop := l = -1000 ∨ ∃ k, k < i ∧ k < hcn xs T ∧ hbt xs b d T k % 2 = h ∧ l = hbt xs b d T k * b
theorem LastOf.step {xs : List Int} {b d : Int} {T i : Nat} {h l : Int} (k : LastOf xs b d T i h l) : LastOf xs b d T (i + 1) h l := by
  rcases k with h0 | ⟨k, a1, a2, a3, a4⟩
  · exact .inl h0
  · exact .inr ⟨k, by omega, a2, a3, a4⟩
theorem LastOf.new {xs : List Int} {b d : Int} {T i : Nat} {h : Int} (hi : i < hcn xs T) (e : hbt xs b d T i % 2 = h) : LastOf xs b d T (i + 1) h (hbt xs b d T i * b) :=
  .inr ⟨i, by omega, hi, e, rfl⟩
theorem LastOf.le {xs : List Int} {b d : Int} {T i : Nat} {h l : Int} (k : LastOf xs b d T i h l) (hi : i < hcn xs T) (e : hbt xs b d T i % 2 = h) (hb : 2 ≤ b ∧ b ≤ 30) (hd : 1 ≤ d ∧ d ≤ 2 * b) : l ≤ hbt xs b d T i * b - d := by
  obtain ⟨⟨⟨z0, _⟩, _⟩, hm⟩ := hrows_at xs b d T i hi
  rcases k with rfl | ⟨k, a1, a2, a3, rfl⟩
  · have := Int.mul_nonneg z0 (show 0 ≤ b by omega)
    omega
  · have h1 := hm k a1
    have h2 : hbt xs b d T k + 2 ≤ hbt xs b d T i := by omega
    have h3 := Int.mul_le_mul_of_nonneg_right h2 (show 0 ≤ b by omega)
    rw [Int.add_mul] at h3
    omega
theorem LastOf.bd {xs : List Int} {b d : Int} {T i : Nat} {h l : Int} (k : LastOf xs b d T i h l) (hT : T ≤ 200) (hb : 2 ≤ b ∧ b ≤ 30) : -1000 ≤ l ∧ l ≤ 6000 := by
  rcases k with rfl | ⟨k, a1, a2, a3, rfl⟩
  · omega
  · obtain ⟨⟨⟨z0, z1⟩, _⟩, _⟩ := hrows_at xs b d T k a2
    have := mul_bd (a := hbt xs b d T k) (b := b) (A := 200) (B := 30) (by omega) (by omega)
    have h2 := Int.mul_nonneg z0 (show 0 ≤ b by omega)
    omega
/-- The flight times. -/
theorem ftm_law {xs : List Int} {b d : Int} {i : Nat} (hi : i < xs.length) (hf : fits xs b d = true) : 0 < xs[i]?.getD 0 → 1 ≤ xs[i]?.getD 0 * b - d := fun hx => by
  by_cases h : xs[i]?.getD 0 * b - d < 1
  · rw [fits_no hi hx h] at hf; cases hf
  · omega
theorem ftms_at (xs : List Int) (b d : Int) {n i : Nat} (hi : i < n) : (ftms xs b d n)[i]?.getD 0 = ftm b d (xs[i]?.getD 0) := by
  simp [ftms, List.getElem?_range hi]
/-- The share is at most 1000. -/
theorem share_bd {xs : List Int} {b d : Int} {n : Nat} (hn : 1 ≤ n) (hb : 2 ≤ b ∧ b ≤ 30) (hd : 1 ≤ d ∧ d ≤ 2 * b) : 0 ≤ 1000 * acc fThrown xs n * d / (2 * b * n) ∧ 1000 * acc fThrown xs n * d / (2 * b * n) ≤ 1000 := by
  have h0 := acc_bd (f := fThrown) (xs := xs) 1 (k := n) (by omega) (fun i _ => by unfold fThrown; split <;> omega)
  rw [Int.one_mul] at h0
  generalize acc fThrown xs n = a at *
  have hp : 0 < 2 * b * (n : Int) := Int.mul_pos (by omega) (by omega)
  have h1 : 0 ≤ 1000 * a * d := Int.mul_nonneg (by omega) (by omega)
  refine ⟨Int.ediv_nonneg h1 (by omega), ?_⟩
  refine Int.ediv_le_of_le_mul hp ?_
  have h2 : a * d ≤ n * (2 * b) := Int.le_trans (Int.mul_le_mul_of_nonneg_right h0.2 (by omega)) (Int.mul_le_mul_of_nonneg_left hd.2 (by omega))
  have h3 : 1000 * a * d = 1000 * (a * d) := Int.mul_assoc _ _ _
  have h4 : 2 * b * (n : Int) = n * (2 * b) := Int.mul_comm _ _
  rw [h3, h4]
  omega
theorem mst_more {xs : List Int} {b d : Int} (h : fits xs b d = true) : d ≤ mst b xs xs.length ∧ fits xs b (mst b xs xs.length + 1) = false :=
  ⟨of_decide_eq_true h, decide_eq_false (by omega)⟩
theorem mst_le (b : Int) (xs : List Int) : mst b xs xs.length ≤ 2 * b := by
  have h := mst_mono b xs 0 xs.length
  rw [Nat.zero_add] at h
  exact h
end Go.Proofs.Ytbaabghehpcjnaa
