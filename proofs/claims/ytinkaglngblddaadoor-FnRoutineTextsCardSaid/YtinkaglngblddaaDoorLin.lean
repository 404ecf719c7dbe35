/- Pictures of throws: plain words, and contracts of hexOf, l04Value, hasByte, isPicture, l18Form. No condition but the stated bounds. -/
import Derived.Test.YtinkaglngblddaaDoorStr
namespace Go.Proofs.YtinkaglngblddaaDoor
set_option linter.unusedVariables false
set_option linter.unusedSimpArgs false
open Go.RowKit Go.Joins

/-- The byte k of s. -/
def bt (s : ByteArray) (k : Nat) : Nat := (s.data[k]?.getD 0).toNat
theorem bt_eq {s : ByteArray} {k : Nat} (h : k < s.size) : s[k].toNat = bt s k := by
  unfold bt
  rw [Array.getElem?_eq_getElem (by exact h)]
  rfl
theorem bt_bd (s : ByteArray) (k : Nat) : bt s k ≤ 255 := by
  unfold bt
  have := (s.data[k]?.getD 0).toNat_lt
  omega
/-- What a character of a throw means. -/
def hxv (b : Nat) : Int := if 48 ≤ b ∧ b ≤ 57 then (b : Int) - 48 else if 97 ≤ b ∧ b ≤ 102 then (b : Int) - 87 else -1
/-- The character of a throw. -/
def dgt (d : Nat) : Nat := if d < 10 then 48 + d else 87 + d
theorem hxv_dgt {d : Nat} (h : d < 16) : hxv (dgt d) = d := by
  unfold hxv dgt
  split <;> split <;> (try split) <;> omega
theorem hxv_none {b : Nat} (h : ∀ d, d < 16 → dgt d ≠ b) : hxv b = -1 := by
  unfold hxv
  split
  · have := h (b - 48) (by omega)
    unfold dgt at this
    split at this <;> omega
  · split
    · have := h (b - 87) (by omega)
      unfold dgt at this
      split at this <;> omega
    · rfl
theorem hxv_bd (b : Nat) : -1 ≤ hxv b ∧ hxv b ≤ 15 := by
  unfold hxv
  split
  · omega
  · split <;> omega
/-- A character of a column. -/
def lgc (b : Nat) : Bool := decide (b = 42 ∨ b = 124 ∨ b = 46)
/-- A line s of a picture, with the first line z. -/
def LRow (z s : ByteArray) : Prop := s.size = z.size ∧ 2 ≤ s.size ∧ s.size ≤ 17 ∧ 0 ≤ hxv (bt s 0) ∧ bt s 1 = 32 ∧ ∀ k, k < s.size → (2 ≤ k → lgc (bt s k) = true)
instance (z s : ByteArray) : Decidable (LRow z s) := by unfold LRow; infer_instance
/-- The first k lines are ones of a picture. -/
def LTo (ls : List ByteArray) (k : Nat) : Prop := ∀ i, i < k → LRow (gs ls 0) (gs ls i)
instance (ls : List ByteArray) (k : Nat) : Decidable (LTo ls k) := by unfold LTo; infer_instance
theorem LTo.succ {ls : List ByteArray} {k : Nat} (h : LTo ls k) (hk : LRow (gs ls 0) (gs ls k)) : LTo ls (k + 1) := fun i hi => by
  by_cases e : i = k
  · rw [e]; exact hk
  · exact h i (by omega)
/-- Lines are a picture. -/
def lfm (ls : List ByteArray) : Bool := decide (LTo ls ls.length ∧ ls.length ≤ 60)
theorem lfm_no {ls : List ByteArray} {k : Nat} (hk : k < ls.length) (h : ¬ LRow (gs ls 0) (gs ls k)) : lfm ls = false := by
  unfold lfm
  rw [decide_eq_false_iff_not]
  exact fun ha => h (ha.1 k hk)
theorem lfm_end {ls : List ByteArray} {k : Nat} (hk : ls.length = k) (h : LTo ls k) : lfm ls = decide ((k : Int) ≤ 60) := by
  subst hk
  unfold lfm
  by_cases e : ls.length ≤ 60
  · rw [decide_eq_true ⟨h, e⟩, decide_eq_true (by omega)]
  · rw [decide_eq_false (fun a => e a.2), decide_eq_false (by omega)]
theorem lfm_iff {ls : List ByteArray} (h : lfm ls = true) : (∀ i, i < ls.length → LRow (gs ls 0) (gs ls i)) ∧ ls.length ≤ 60 := by
  unfold lfm at h
  exact of_decide_eq_true h
/-- The columns with a star among the first k. -/
def stl (s : ByteArray) : Nat → List Int
  | 0 => []
  | k + 1 => if 2 ≤ k ∧ bt s k = 42 then stl s k ++ [(k : Int)] else stl s k
theorem stl_two (s : ByteArray) : stl s 2 = [] := by simp [stl]
theorem stl_hit {s : ByteArray} {k : Nat} (h2 : 2 ≤ k) (h : bt s k = 42) : stl s (k + 1) = stl s k ++ [(k : Int)] := if_pos ⟨h2, h⟩
theorem stl_miss {s : ByteArray} {k : Nat} (h : ¬ bt s k = 42) : stl s (k + 1) = stl s k := if_neg (fun a => h a.2)
theorem stl_len (s : ByteArray) (k : Nat) : (stl s k).length ≤ k := by
  induction k with
  | zero => simp [stl]
  | succ k ih => simp only [stl]; split <;> (try rw [List.length_append]) <;> (try simp only [List.length_singleton]) <;> omega
theorem stl_mem (s : ByteArray) (k : Nat) : ∀ c ∈ stl s k, 2 ≤ c ∧ c < k := by
  induction k with
  | zero => simp [stl]
  | succ k ih =>
    intro c hc
    simp only [stl] at hc
    split at hc
    · rw [List.mem_append] at hc
      rcases hc with hc | hc
      · have := ih c hc; omega
      · simp at hc; omega
    · have := ih c hc; omega
theorem stl_mono (s : ByteArray) {j k : Nat} (h : j ≤ k) : (stl s j).length ≤ (stl s k).length := by
  induction k with
  | zero => rw [show j = 0 by omega]; exact Nat.le_refl _
  | succ k ih =>
    by_cases e : j = k + 1
    · rw [e]; exact Nat.le_refl _
    · refine Nat.le_trans (ih (by omega)) ?_
      simp only [stl]
      split <;> simp
/-- The first place from j on, among m, where f holds; from 'at'. -/
def seek (f : Nat → Bool) (at_ : Int) : Nat → Nat → Int
  | _, 0 => -1
  | j, m + 1 => if f j then (j : Int) - at_ else seek f at_ (j + 1) m
theorem seek_hit {f : Nat → Bool} {a : Int} {j m : Nat} (hm : 0 < m) (h : f j = true) : seek f a j m = (j : Int) - a := by
  obtain ⟨m, rfl⟩ : ∃ k, m = k + 1 := ⟨m - 1, by omega⟩
  simp only [seek]
  rw [if_pos h]
theorem seek_miss {f : Nat → Bool} {a : Int} {j m : Nat} (h : f j = false) (hm : 0 < m) : seek f a j m = seek f a (j + 1) (m - 1) := by
  obtain ⟨m, rfl⟩ : ∃ k, m = k + 1 := ⟨m - 1, by omega⟩
  simp only [seek]
  rw [if_neg (by rw [h]; simp)]
  rfl
theorem seek_bd (f : Nat → Bool) {a : Nat} (j m : Nat) (h : a < j) : seek f a j m = -1 ∨ (1 ≤ seek f a j m ∧ seek f a j m < (j + m - a : Int)) := by
  induction m generalizing j with
  | zero => exact .inl rfl
  | succ m ih =>
    simp only [seek]
    split
    · right; omega
    · rcases ih (j + 1) (by omega) with h1 | h1
      · exact .inl h1
      · right; omega
/-- The throw that the columns tell for a line. -/
def told (ls : List ByteArray) (i : Nat) : Int :=
  match stl (gs ls i) (gs ls i).size with
  | [] => 0
  | [c] => seek (fun j => decide (bt (gs ls j) c.toNat = 42)) i (i + 1) (ls.length - (i + 1))
  | _ => -1
theorem told_none {ls : List ByteArray} {i : Nat} (h : stl (gs ls i) (gs ls i).size = []) : told ls i = 0 := by
  unfold told
  rw [h]
theorem told_one {ls : List ByteArray} {i c : Nat} (h : stl (gs ls i) (gs ls i).size = [(c : Int)]) : told ls i = seek (fun j => decide (bt (gs ls j) c = 42)) i (i + 1) (ls.length - (i + 1)) := by
  unfold told
  rw [h]
  rfl
theorem told_more {ls : List ByteArray} {i : Nat} (h : 2 ≤ (stl (gs ls i) (gs ls i).size).length) : told ls i = -1 := by
  unfold told
  match hs : stl (gs ls i) (gs ls i).size with
  | [] => rw [hs] at h; simp at h
  | [c] => rw [hs] at h; simp at h
  | _ :: _ :: _ => rfl
theorem told_bd (ls : List ByteArray) {i : Nat} (hi : i < ls.length) : -1 ≤ told ls i ∧ told ls i ≤ ls.length := by
  unfold told
  split
  · omega
  · rcases seek_bd (fun j => decide (bt (gs ls j) (Int.toNat ‹Int›) = 42)) (i + 1) (ls.length - (i + 1)) (Nat.lt_succ_self i) with h | h <;> omega
  · omega
/-- The shapes of the columns with a star. -/
theorem stl_cases (s : ByteArray) : stl s s.size = [] ∨ (∃ c : Nat, stl s s.size = [(c : Int)] ∧ 2 ≤ c ∧ c < s.size) ∨ 2 ≤ (stl s s.size).length := by
  have hm := stl_mem s s.size
  match hs : stl s s.size with
  | [] => exact .inl rfl
  | [c] =>
    rw [hs] at hm
    have := hm c (by simp)
    exact .inr (.inl ⟨c.toNat, by rw [Int.toNat_of_nonneg (by omega)], by omega, by omega⟩)
  | _ :: _ :: _ => exact .inr (.inr (by simp))
theorem hexD : ∀ d : Fin 16, ((⟨#[48, 49, 50, 51, 52, 53, 54, 55, 56, 57, 97, 98, 99, 100, 101, 102]⟩ : ByteArray)[d.val]'(by exact d.isLt)).toNat = dgt d := by decide
set_option maxHeartbeats 1000000 in
theorem hexOf_any (b : Nat) (w : World) :
    Calls Tryd.prog 84 #[.int .u8 b] w fun e w' => e = .returned (.int .i64 (hxv b)) ∧ w = w' := by
  go_enter Tryd.func84, Tryd.ntmps84
  go_wp2
  go_loop [4, 3] (fun i _ => ∃ d : Nat, d ≤ 16 ∧ i = .int .i64 d ∧ ∀ j, j < d → dgt j ≠ b) (fun i _ => 16 - (intOf i).toNat)
  case atStart => exact ⟨0, by omega, rfl, fun j h => absurd h (by omega)⟩
  case round =>
    obtain ⟨d, hd, rfl, hno⟩ := hrel
    have HN := Lib.hid hno
    clear hno
    by_cases h : d < 16
    · have hsz : d < (⟨#[48, 49, 50, 51, 52, 53, 54, 55, 56, 57, 97, 98, 99, 100, 101, 102]⟩ : ByteArray).size := h
      have hdi : (d : Int) < 16 := by omega
      have hbyte : ((⟨#[48, 49, 50, 51, 52, 53, 54, 55, 56, 57, 97, 98, 99, 100, 101, 102]⟩ : ByteArray)[d]'hsz).toNat = dgt d := hexD ⟨d, h⟩
      by_cases hb : dgt d = b
      · have HR : Hid (hxv b = d) := by show _ = _; rw [← hb]; exact hxv_dgt h
        have e1 : (((((⟨#[48, 49, 50, 51, 52, 53, 54, 55, 56, 57, 97, 98, 99, 100, 101, 102]⟩ : ByteArray)[d]'hsz).toNat : Nat) : Int) == (b : Int)) = true := by rw [hbyte, hb]; simp
        clear hbyte
        go_wp2
        go_ret
        exact ⟨ret_int HR.out.symm, rfl⟩
      · have HM : Hid (∀ j, j < d + 1 → dgt j ≠ b) := fun j hj => by
          by_cases e : j = d
          · rw [e]; exact hb
          · exact HN.out j (by omega)
        have e1 : (((((⟨#[48, 49, 50, 51, 52, 53, 54, 55, 56, 57, 97, 98, 99, 100, 101, 102]⟩ : ByteArray)[d]'hsz).toNat : Nat) : Int) == (b : Int)) = false := by rw [hbyte]; simp; omega
        clear hbyte
        go_wp2
        go_round
        case rel => exact ⟨d + 1, by omega, by go_num, HM.out⟩
        case measure => simp [intOf]; omega
    · obtain rfl : d = 16 := by omega
      have HR : Hid (hxv b = -1) := hxv_none HN.out
      go_wp2
      go_ret
      exact ⟨ret_int HR.out.symm, rfl⟩
theorem hexOf_is (b : Nat) (v : Int) (h : hxv b = v) (w : World) :
    Calls Tryd.prog 84 #[.int .u8 b] w fun e w' => e = .returned (.int .i64 v) ∧ w = w' := by
  subst h
  exact hexOf_any b w
end Go.Proofs.YtinkaglngblddaaDoor
