/- Bytes as arguments, and contracts of a2Long, a2At. No condition but the stated bounds. (For seats without a source of choices.) -/
import Derived.Test.YtbldhfmhipdniaaSli
import Derived.ProofKit
namespace Go.Proofs.Ytbldhfmhipdniaa
set_option linter.unusedVariables false
set_option linter.unusedSimpArgs false
open Go.ChangeShapes Go.WideShapes Go.ChangeAt Go.RowKit Go.Joins

/-- The slice (A, n) holds the bytes xs. -/
structure Byts (w : World) (A : Option Addr) (n : Nat) (xs : List Int) : Prop where
  len : xs.length = n
  small : n ≤ 9223372036854775807
  bds : ∀ i, i < n → 0 ≤ xs[i]?.getD 0 ∧ xs[i]?.getD 0 ≤ 255
  at_ : 0 < n → ∃ b off, A = some ⟨b, off, none⟩ ∧ b < w.heap.size ∧ ∀ i, i < n → w.cell? ⟨b, off + i, none⟩ = some (.int .u8 (xs[i]?.getD 0))
theorem Byts.ext {w w' : World} {A : Option Addr} {n : Nat} {xs : List Int} (h : Byts w A n xs) (k : Ext w w') : Byts w' A n xs :=
  ⟨h.len, h.small, h.bds, fun hn => by
    obtain ⟨b, off, e, hb, hc⟩ := h.at_ hn
    exact ⟨b, off, e, Nat.lt_of_lt_of_le hb k.size, fun i hi => k.cell hb (hc i hi)⟩⟩
theorem bounds_u8 {n : Int} (h : (Lit.int .u8 n).wf = true) : 0 ≤ n ∧ n ≤ 255 := by
  simp [Lit.wf, IntKind.min, IntKind.max, IntKind.bits, IntKind.signed] at h
  omega
/-- An argument's reading. -/
theorem argByts {H : Type} {enc : TypeId × Value → H} {P : Program} {W : World} {t e : TypeId} {A : Option Addr} {n c : Nat} {d : DataW H} {p : List MemPlace} (ht : P.underlying t = some (.slice e)) (he : P.underlying e = some (.int .u8)) (hc : P.cellsOf e = 1)
    (h : DataW.Trod enc P W 0 (fun _ => true) true t (.slice A n c) d p) : ∃ xs, Byts W A n xs := by
  obtain ⟨fuel, hf⟩ := h
  rcases open_ints ht he hc hf with ⟨hcs, hx⟩ | ⟨a, len, cap, zs, hcs, _, hl, hm, hz, hx, hcell, hwz⟩
  · obtain ⟨rfl, rfl, rfl⟩ : A = none ∧ n = 0 ∧ c = 0 := by simpa [Value.cells] using hcs
    exact ⟨[], rfl, by omega, fun i h => absurd h (by omega), fun h => absurd h (by omega)⟩
  · obtain ⟨rfl, rfl, rfl⟩ : A = some a ∧ n = len ∧ c = cap := by simpa [Value.cells] using hcs
    simp only [if_true] at hz
    unfold maxLen at hm
    have hg : ∀ i, i < n → (zs.take n)[i]?.getD 0 = zs[i]?.getD 0 := fun i hi => by simp [hi]
    refine ⟨zs.take n, by simp; omega, by omega, fun i hi => ?_, fun hn => ?_⟩
    · rw [hg i hi, List.getElem?_eq_getElem (by omega)]
      exact bounds_u8 (hwz _ (List.getElem_mem _))
    · obtain ⟨b, off, spot⟩ := a
      have hspot : spot = none := by simpa [Addr.add] using World.cell?_spot (hcell 0 (by omega))
      subst hspot
      have hcc : ∀ j, j < zs.length → W.cell? ⟨b, off + j, none⟩ = some (.int .u8 (zs[j]?.getD 0)) := fun j hj => by
        rw [← Go.WideShapes.add_plain, hcell j hj]
        simp
      refine ⟨b, off, rfl, cell_lt (hcc 0 (by omega)), fun i hi => ?_⟩
      rw [hcc i (by omega), hg i hi]
theorem a2Long_any (A B : Option Addr) (n c m d : Nat) (w : World) (hn : n ≤ 9223372036854775807) (hm : m ≤ 9223372036854775807) :
    Calls Try.prog 6 #[.slice A n c, .slice B m d] w fun e w' => e = .returned (.bool (decide (3000 < n) || decide (3000 < m))) ∧ w = w' := by
  by_cases h1 : 3000 < n
  · have h1i : (3000 : Int) < n := by omega
    go_enter Try.func6, Try.ntmps6
    go_wp2
    go_ret
    exact ⟨by simp [h1], rfl⟩
  · have h1i : ¬ (3000 : Int) < n := by omega
    by_cases h2 : 3000 < m
    · have h2i : (3000 : Int) < m := by omega
      go_enter Try.func6, Try.ntmps6
      go_wp2
      go_ret
      exact ⟨by simp [h1, h2], rfl⟩
    · have h2i : ¬ (3000 : Int) < m := by omega
      go_enter Try.func6, Try.ntmps6
      go_wp2
      go_ret
      exact ⟨by simp [h1, h2], rfl⟩
theorem a2At_any (A : Option Addr) (n c : Nat) (xs : List Int) (k : Nat) (m : Int) (w : World) (hB : Byts w A n xs) (hm : m ≤ 1000000) (hk : k ≤ 1000) (hm0 : -1000000 ≤ m) :
    Calls Try.prog 7 #[.slice A n c, .int .i64 k, .int .i64 m] w fun e w' => ∃ x : Int, e = .returned (.int .i64 x) ∧ 0 ≤ x ∧ x ≤ 255 ∧ (x < m ∨ x = 0) ∧ w = w' := by
  have hsm := hB.small
  by_cases h1 : n ≤ k
  · have h1i : (n : Int) ≤ k := by omega
    go_enter Try.func7, Try.ntmps7
    go_wp2
    go_ret
    exact ⟨0, rfl, by omega, by omega, by omega, rfl⟩
  · have h1i : ¬ (n : Int) ≤ k := by omega
    have h1j : (k : Int) < n := by omega
    by_cases h2 : m < 1
    · go_enter Try.func7, Try.ntmps7
      go_wp2
      go_ret
      exact ⟨0, rfl, by omega, by omega, by omega, rfl⟩
    · obtain ⟨b, off, rfl, hb, hcell⟩ := hB.at_ (by omega)
      have c1 := hcell k (by omega)
      have hx := hB.bds k (by omega)
      generalize xs[k]?.getD 0 = x at *
      clear hcell
      have e1 := Int.emod_nonneg x (show m ≠ 0 by omega)
      have e2 := Int.emod_lt_of_pos x (show 0 < m by omega)
      have e3 : x % m ≤ x := by have h1 := Int.emod_add_mul_ediv x m; have h2 : 0 ≤ x / m := Int.ediv_nonneg hx.1 (by omega); have h3 : 0 ≤ m * (x / m) := Int.mul_nonneg (by omega) h2; omega
      go_enter Try.func7, Try.ntmps7
      go_wp2
      go_ret
      exact ⟨x % m, rfl, by omega, by omega, by omega, rfl⟩
theorem a2At_is (A : Option Addr) (n c : Nat) (xs : List Int) (k : Nat) (q m : Int) (w : World) (hB : Byts w A n xs) (hq : q = k) (hm : m ≤ 1000000) (hk : k ≤ 1000) (hm0 : -1000000 ≤ m) :
    Calls Try.prog 7 #[.slice A n c, .int .i64 q, .int .i64 m] w fun e w' => ∃ x : Int, e = .returned (.int .i64 x) ∧ 0 ≤ x ∧ x ≤ 255 ∧ (x < m ∨ x = 0) ∧ w = w' := by
  subst hq
  exact a2At_any A n c xs k m w hB hm hk hm0
end Go.Proofs.Ytbldhfmhipdniaa
