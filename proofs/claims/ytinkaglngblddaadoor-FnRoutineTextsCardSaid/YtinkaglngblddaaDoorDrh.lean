/- Drawn orders of hands: contracts of l00Own, l14Draw, l14Bent, l14Ask. No condition but the stated bounds. -/
import Derived.Test.YtinkaglngblddaaDoorDrw
import Derived.Test.YtinkaglngblddaaDoorLow
namespace Go.Proofs.YtinkaglngblddaaDoor
set_option linter.unusedVariables false
set_option linter.unusedSimpArgs false
open Go.RowKit Go.Joins

/-- What is read of a row of the call's own. -/
theorem own_ints {w : World} {lo : Nat} {A : Option Addr} {n c : Nat} {ys : List Int} (h : w.ownsRow lo 2 1 (.slice A n c) n (ys.map (Value.int .i64))) (hn : n ≤ 1000000) (hb : ∀ y ∈ ys, -100 ≤ y ∧ y ≤ 100) : Ints w A n ys :=
  Ints.of_own h (by omega) (fun y hy => by have := hb y hy; omega)
theorem ownr_cap {w : World} {lo : Nat} {e : TypeId} {m : Nat} {A : Option Addr} {n c : Nat} {cs : List Value} (h : w.ownsRow lo e m (.slice A n c) n cs) : n ≤ c := by
  rcases h.2 with ⟨h0, h1⟩ | ⟨g, cap, cur, ev, hb, hg, hle, rest⟩
  · injection h0 with a1 a2 a3; omega
  · injection ev with a1 a2 a3; omega
theorem take_bd {zs : List Int} {lo hi : Int} (h : ∀ y ∈ zs, lo ≤ y ∧ y ≤ hi) (a : Nat) : ∀ y ∈ zs.take a, lo ≤ y ∧ y ≤ hi := fun y hy => h y (List.mem_of_mem_take hy)
theorem drop_bd {zs : List Int} {lo hi : Int} (h : ∀ y ∈ zs, lo ≤ y ∧ y ≤ hi) (a : Nat) : ∀ y ∈ zs.drop a, lo ≤ y ∧ y ≤ hi := fun y hy => h y (List.mem_of_mem_drop hy)
theorem cat_bd {xs ys : List Int} {lo hi : Int} (h : ∀ y ∈ xs, lo ≤ y ∧ y ≤ hi) (k : ∀ y ∈ ys, lo ≤ y ∧ y ≤ hi) : ∀ y ∈ xs ++ ys, lo ≤ y ∧ y ≤ hi := fun y hy => by
  rw [List.mem_append] at hy
  rcases hy with h1 | h1
  · exact h y h1
  · exact k y h1
end Go.Proofs.YtinkaglngblddaaDoor
