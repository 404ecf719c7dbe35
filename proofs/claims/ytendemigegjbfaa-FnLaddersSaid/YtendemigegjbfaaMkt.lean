/- The laws' marks on strings: contracts of markText, markStringS, heldStringS. No condition but the stated bounds. -/
import Derived.Test.YtendemigegjbfaaStr
import Derived.Test.YtendemigegjbfaaByt
import Derived.Test.YtendemigegjbfaaRow
namespace Go.Proofs.Ytendemigegjbfaa
set_option linter.unusedVariables false
set_option linter.unusedSimpArgs false
open Go.RowKit Go.Joins

/-- The digits of a number. -/
def mtd (k : Nat) : List UInt8 := if h : k = 0 then [] else mtd (k / 10) ++ [UInt8.ofNat (48 + k % 10)]
termination_by k
decreasing_by omega
theorem mtd_zero : mtd 0 = [] := by rw [mtd]; rfl
theorem mtd_pos {k : Nat} (h : 0 < k) : mtd k = mtd (k / 10) ++ [UInt8.ofNat (48 + k % 10)] := by
  rw [mtd]
  rw [dif_neg (by omega)]
/-- The text of a mark. -/
def mtx (k : Nat) : ByteArray := ⟨#[109]⟩ ++ ⟨(mtd k).toArray⟩
/-- 'string([]byte{x})'. -/
theorem conv_one (W : World) (x : Nat) (hx : x < 256) : (Go.convert 22 9 (.slice (some ⟨W.heap.size, 0, none⟩) 1 1)).run Try.prog (W.alloc (.cells #[.int .u8 (x : Int)] 5)) = .ok (.string ⟨#[UInt8.ofNat x]⟩) (W.alloc (.cells #[.int .u8 (x : Int)] 5)) := by
  have e : ((UInt8.ofNat x).toNat : Int) = x := by simp; omega
  have hc : Go.Lib.Bytes (W.alloc (.cells #[.int .u8 (x : Int)] 5)) W.heap.size 0 ⟨#[UInt8.ofNat x]⟩ := fun i hi => by
    have hi' : i < 1 := hi
    obtain rfl : i = 0 := by omega
    rw [Nat.zero_add, cell_of_block (heap_alloc_new _ _)]
    show some (Value.int .u8 (x : Int)) = some (.int .u8 ((UInt8.ofNat x).toNat : Int))
    rw [e]
  exact Go.Lib.run_convert_whole (P := Try.prog) _ 22 5 9 Try.underlying22 Try.underlying5 Try.underlying9 W.heap.size 0 ⟨#[UInt8.ofNat x]⟩ hc 1
theorem mtd_len (n : Nat) : ∀ k, k < 10 ^ n → (mtd k).length ≤ n := by
  induction n with
  | zero => intro k h; rw [show k = 0 by simp at h; omega, mtd_zero]; simp
  | succ n ih =>
    intro k h
    by_cases h0 : 0 < k
    · rw [mtd_pos h0, List.length_append]
      have := ih (k / 10) (by rw [Nat.pow_succ] at h; omega)
      simp
      omega
    · rw [show k = 0 by omega, mtd_zero]; simp
theorem mtx_sz {k : Nat} (h : k ≤ 1000000000) : (mtx k).size ≤ 9223372036854775807 := by
  have h1 := mtd_len 10 k (by omega)
  unfold mtx
  rw [ByteArray.size_append]
  have h2 : (⟨(mtd k).toArray⟩ : ByteArray).size = (mtd k).length := by show (mtd k).toArray.size = _; simp
  have h3 : (⟨#[109]⟩ : ByteArray).size = 1 := rfl
  omega
/-- The texts of the marks k, k + 1, .. -/
def mks (k : Nat) (n : Nat) : List ByteArray := (List.range n).map fun i => mtx (k + i)
theorem mks_len (k n : Nat) : (mks k n).length = n := by simp [mks]
theorem mks_get {k n i : Nat} (h : i < n) : gs (mks k n) i = mtx (k + i) := by simp [gs, mks, h]
theorem mks_sz {k n : Nat} (hk : k ≤ 500000000) (hn : n ≤ 500000000) : ∀ s ∈ mks k n, s.size ≤ 9223372036854775807 := by
  intro s hs
  simp only [mks, List.mem_map, List.mem_range] at hs
  obtain ⟨i, hi, rfl⟩ := hs
  exact mtx_sz (by omega)
/-- What a mark of strings does. -/
def MarkdS (w : World) (lo hi : Nat) (A : Option Addr) (n c : Nat) (k : Nat) (en : Ending) (w' : World) : Prop :=
  ∃ K : Nat, en = .returned (.int .i64 K) ∧ K = k + n ∧ w.grownBy w' (A.map (·.block)) ∧ RowG w' lo hi 9 1 A n c ((mks k n).map Value.string)
end Go.Proofs.Ytendemigegjbfaa
