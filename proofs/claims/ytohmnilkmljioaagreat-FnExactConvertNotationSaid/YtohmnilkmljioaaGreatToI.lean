/- Contracts of the laws' own copies and comparisons of integer slices: toInt64S, eqInt64S. No condition but the stated bounds. -/
import Derived.Test.YtohmnilkmljioaaGreatSli
import Derived.Deep.OwnRows
namespace Go.Proofs.YtohmnilkmljioaaGreat
set_option linter.unusedVariables false
set_option linter.unusedSimpArgs false
open Go.RowKit Go.Joins

/-- Block g behind w is a row of n numbers, the first k of which are those of xs. -/
def Fill (w wr : World) (n : Nat) (xs : List Int) (k : Nat) : Prop :=
  ∃ cs : Array Value, wr.heap[w.heap.size]? = some (.cells cs 2 (0, 0)) ∧ cs.size = n ∧ (∀ j, j < k → cs[j]? = some (.int .i64 (xs[j]?.getD 0))) ∧ Ext w wr
theorem Fill.own {w wr : World} {n : Nat} {xs : List Int} (h : Fill w wr n xs n) (hl : xs.length = n) (hn : n ≤ 1000000000) : Own w wr (.slice (some ⟨w.heap.size, 0, none⟩) n n) xs := by
  obtain ⟨cs, hb, hs, hc, hx⟩ := h
  refine ⟨⟨by simp, .inr ⟨w.heap.size, n, cs, by rw [hl], Nat.le_refl _, hb, by omega, by unfold maxLen; omega, by omega, ?_⟩⟩, hx⟩
  apply List.ext_getElem?
  intro j
  rw [List.getElem?_take, List.getElem?_map]
  by_cases hj : j < n
  · have h1 := hc j hj
    rw [if_pos (by omega), Array.getElem?_toList, h1, List.getElem?_eq_getElem (show j < xs.length by omega)]
    rfl
  · rw [if_neg (by omega), List.getElem?_eq_none (by omega)]
    rfl
theorem Fill.cell {w wr : World} {n : Nat} {xs : List Int} {k : Nat} (h : Fill w wr n xs k) {j : Nat} (hj : j < n) : (∃ u, wr.cell? ⟨w.heap.size, j, none⟩ = some u) ∧ wr.frozen? ⟨w.heap.size, j, none⟩ = false := by
  obtain ⟨cs, hb, hs, hc, hx⟩ := h
  refine ⟨⟨cs[j]'(by omega), ?_⟩, unfrozen_of_block hb j⟩
  rw [cell_of_block hb j, Array.getElem?_eq_getElem (by omega)]
theorem Fill.store {w wr : World} {n : Nat} {xs : List Int} {k : Nat} (h : Fill w wr n xs k) (hk : k < n) : Fill w (wr.setCell ⟨w.heap.size, k, none⟩ (.int .i64 (xs[k]?.getD 0))) n xs (k + 1) := by
  obtain ⟨cs, hb, hs, hc, hx⟩ := h
  refine ⟨_, block_setCell hb _, by simpa using hs, fun j hj => ?_, hx.set (Nat.le_refl _) _⟩
  rw [Array.getElem?_setIfInBounds]
  by_cases e : k = j
  · subst e
    rw [if_pos rfl, if_pos (by omega)]
  · rw [if_neg e]
    exact hc j (by omega)
set_option maxHeartbeats 400000 in
theorem toInt64S_any (A : Option Addr) (n c : Nat) (xs : List Int) (w : World) (hI : Ints w A n xs) (hn : n ≤ 1048576) :
    Calls Tryz.prog 20 #[.slice A n c] w (fun e w' => e = .returned (.slice (some ⟨w.heap.size, 0, none⟩) n n) ∧ Own w w' (.slice (some ⟨w.heap.size, 0, none⟩) n n) xs) := by
  have hmk := fun W => run_make_row' (P := Tryz.prog) 22 2 (.int .i64 0) 8 Tryz.underlying22 infoInt rfl .i64 .i64 n (by omega) (by omega) W
  go_enter Tryz.func20, Tryz.ntmps20
  go_wp2
  clear hmk
  go_loopw [4] (fun i wr => ∃ k : Nat, k ≤ n ∧ i = .int .i64 k ∧ Fill w wr n xs k) (fun i _ => n - (intOf i).toNat)
  case atStart => exact ⟨0, Nat.zero_le _, rfl, ⟨_, heap_alloc_new _ _, size_madeCells _ _, fun j h => absurd h (by omega), (Ext.refl _).alloc _⟩⟩
  case round =>
    obtain ⟨k, hk, rfl, hfill⟩ := hrel
    by_cases hlt : k < n
    · have hxe : Ext w wr := by obtain ⟨_, _, _, _, h⟩ := hfill; exact h
      obtain ⟨b, off, hA, hb, hcell⟩ := (hI.ext hxe).at_ (by omega)
      subst hA
      have c1 := hcell k hlt
      obtain ⟨⟨u, c2⟩, f2⟩ := hfill.cell hlt
      clear hcell
      go_wp2
      go_roundw
      case rel => exact ⟨k + 1, by omega, by go_num, hfill.store hlt⟩
      case measure => simp [intOf]; omega
    · obtain rfl : k = n := by omega
      go_wp2
      go_ret
      exact ⟨rfl, hfill.own hI.len (by omega)⟩
/-- A new slice of n numbers xs. -/
def RetOwn (w : World) (n : Nat) (xs : List Int) (e : Ending) (w' : World) : Prop := ∃ A c, e = .returned (.slice A n c) ∧ Own w w' (.slice A n c) xs
theorem toInt64S_ex (A : Option Addr) (n c : Nat) (xs : List Int) (w : World) (hI : Ints w A n xs) (hn : n ≤ 1048576) :
    Calls Tryz.prog 20 #[.slice A n c] w (RetOwn w n xs) :=
  (toInt64S_any A n c xs w hI hn).mono fun _ _ h => ⟨_, _, h⟩
set_option maxHeartbeats 400000 in
theorem eqInt64S_same (A B : Option Addr) (n c d : Nat) (xs : List Int) (w : World) (hI : Ints w A n xs) (hJ : Ints w B n xs) :
    Calls Tryz.prog 32 #[.slice A n c, .slice B n d] w (fun e w' => e = .returned (.bool true) ∧ Qt w w') := by
  have hs := hI.small
  go_enter Tryz.func32, Tryz.ntmps32
  go_wp2
  go_loopw [5] (fun i wr => ∃ k : Nat, k ≤ n ∧ i = .int .i64 k ∧ Qt w wr) (fun i _ => n - (intOf i).toNat)
  case atStart => exact ⟨0, Nat.zero_le _, rfl, Qt.refl _⟩
  case round =>
    obtain ⟨k, hk, rfl, m, rfl⟩ := hrel
    by_cases hlt : k < n
    · obtain ⟨b, off, hA, hb, hcell⟩ := hI.at_ (by omega)
      obtain ⟨b2, off2, hB, hb2, hcell2⟩ := hJ.at_ (by omega)
      subst hA hB
      have c1 := hcell k hlt
      have c2 := hcell2 k hlt
      have i1 : (k : Int) < n := by omega
      clear hcell hcell2
      go_wp2
      go_quiet (fail)
      go_wp2
      go_roundw
      case rel => exact ⟨k + 1, by omega, by go_num, (by first | exact ⟨_, rfl⟩ | exact ⟨_, World.drewN_drewN _ _ _⟩)⟩
      case measure => simp [intOf]; omega
    · obtain rfl : k = n := by omega
      go_wp2
      go_ret
      exact ⟨rfl, (by first | exact ⟨_, rfl⟩ | exact ⟨_, World.drewN_drewN _ _ _⟩)⟩
end Go.Proofs.YtohmnilkmljioaaGreat
