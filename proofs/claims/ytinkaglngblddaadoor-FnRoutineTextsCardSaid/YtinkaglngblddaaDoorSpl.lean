/- Draws of ladders: contracts of l18Beats, l18Ask, DrawThrownProps, DrawLadderOf, DrawPropBeats, DrawHandLadder, text, l01Spoil. No condition but the stated bounds. -/
import Derived.Test.YtinkaglngblddaaDoorDrv
import Derived.Test.YtinkaglngblddaaDoorDrh
import Derived.Deep.RegionHeld3
namespace Go.Proofs.YtinkaglngblddaaDoor
set_option linter.unusedVariables false
set_option linter.unusedSimpArgs false
open Go.Joins Go.RowKit


theorem ints_newL (w : World) (ys : List Int) (t : TypeId) (hn : ys.length ≤ 1000) (hb : ∀ y ∈ ys, -9223372036854775808 ≤ y ∧ y ≤ 9223372036854775807) : Ints (w.alloc (.cells (ys.map (Value.int .i64)).toArray t)) (some ⟨w.heap.size, 0, none⟩) ys.length ys :=
  ⟨rfl, by omega, hb, fun _ => ⟨w.heap.size, 0, rfl, by simp, fun i hi => by
    rw [Nat.zero_add]
    refine (cell_of_block (heap_alloc_new w _) i).trans ?_
    simp [List.getElem?_eq_getElem hi]⟩⟩
set_option maxHeartbeats 1000000 in
theorem textL_any (b N : Nat) (w0 w : World) (g : Nat) (A : Option Addr) (n c : Nat) (xs : List Int) (top : Nat) (h : Srd w0 w g A n c xs top) (ht : top ≤ 999999999) (hN : 1 ≤ N ∧ N ≤ 100) (hb : b < w.heap.size) (hne : b ≠ g) (hs : ∀ i, i < N → ∃ s : ByteArray, s.size ≤ 8 ∧ w.cell? ⟨b, i, none⟩ = some (.string s)) :
    Calls Tryd.prog 72 #[.pointer (some ⟨g, 0, none⟩), .slice (some ⟨b, 0, none⟩) N N] w fun e w' => ∃ s : ByteArray, e = .returned (.string s) ∧ s.size ≤ 8 ∧ Srd w0 w' g A n c xs (top + 2) ∧ w.grownBy w' (some g) := by
  go_enter Tryd.func72, Tryd.ntmps72
  go_wp2_with fail
  (with_reducible refine (pick_any N w0 _ g A n c xs top h ht).mono ?_)
  rintro e w1 ⟨x, rfl, hx, hs1, hg1⟩
  obtain ⟨k, rfl⟩ : ∃ k : Nat, x = k := ⟨x.toNat, by omega⟩
  have hkm : k < N := by omega
  obtain ⟨s, hss, hcell⟩ := hs k hkm
  have c1 := (grown_cell hg1 hb hne k).trans hcell
  have hki : (k : Int) < N := by omega
  clear hs hcell
  go_wp2
  go_ret
  exact ⟨s, rfl, hss, hs1, hg1⟩
abbrev bents : Array Value := #[.string ⟨#[32]⟩, .string ⟨#[48]⟩, .string ⟨#[45]⟩, .string ⟨#[120]⟩, .string ⟨#[49]⟩, .string ⟨#[57]⟩, .string ⟨#[46]⟩]
theorem bents_str : ∀ i, i < 7 → ∃ s : ByteArray, s.size ≤ 8 ∧ bents[i]? = some (.string s) := fun i hi => by
  (obtain rfl | rfl | rfl | rfl | rfl | rfl | rfl : i = 0 ∨ i = 1 ∨ i = 2 ∨ i = 3 ∨ i = 4 ∨ i = 5 ∨ i = 6 := by omega) <;> exact ⟨_, by decide, rfl⟩
theorem bents_cells (w : World) : ∀ i, i < 7 → ∃ s : ByteArray, s.size ≤ 8 ∧ (w.alloc (.cells bents 9)).cell? ⟨w.heap.size, i, none⟩ = some (.string s) := fun i hi => by
  obtain ⟨s, h1, h2⟩ := bents_str i hi
  exact ⟨s, h1, (cell_of_block (heap_alloc_new w _) i).trans h2⟩
theorem empty_of (t : ByteArray) (h : t.size = 0) : t = ⟨#[]⟩ := by
  cases t with
  | mk d =>
    have : d = #[] := Array.eq_empty_of_size_eq_zero h
    rw [this]
theorem empty_no (t : ByteArray) (h : ¬ t.size = 0) : t.toList.isEmpty = false := by
  rw [ByteArray.toList_eq]
  cases hl : t.data.toList with
  | nil => exact absurd (show t.size = 0 by have h1 := congrArg List.length hl; simpa using h1) h
  | cons _ _ => rfl
theorem Srd.lt_of {w0 w : World} {W' : Obj} {g n c top : Nat} {A : Option Addr} {xs : List Int} (_ : Srd w0 ((w.alloc W').drew) g A n c xs top) (_ : g < w.heap.size) : w.heap.size < ((w.alloc W').drew).heap.size := by
  show w.heap.size < (w.alloc W').heap.size
  simp
set_option maxHeartbeats 4000000 in
set_option maxRecDepth 100000 in
theorem l01Spoil_any (t : ByteArray) (w0 w : World) (g : Nat) (A : Option Addr) (n c : Nat) (xs : List Int) (top : Nat) (h : Srd w0 w g A n c xs top) (ht : top ≤ 900000000) (hs : t.size ≤ 1000) :
    Calls Tryd.prog 42 #[.pointer (some ⟨g, 0, none⟩), .string t] w fun e w' => ∃ s : ByteArray, e = .returned (.string s) ∧ s.size ≤ t.size + 8 ∧ Srd w0 w' g A n c xs (top + 10) ∧ w.grownBy w' (some g) := by
  go_enter Tryd.func42, Tryd.ntmps42
  go_wp2_with fail
  (with_reducible refine (pick_any 5 w0 _ g A n c xs top h (by omega)).mono ?_)
  rintro e w1 ⟨x, rfl, hx, hs1, hg1⟩
  have hxc : x = 0 ∨ x = 1 ∨ 2 ≤ x := by omega
  rcases hxc with rfl | rfl | hx2
  · go_wp2_with fail
    (with_reducible refine (pick_any (t.size + 1) w0 _ g A n c xs _ hs1 (by omega)).mono ?_)
    rintro e w2 ⟨a, rfl, ha, hs2, hg2⟩
    obtain ⟨k, rfl⟩ : ∃ k : Nat, a = k := ⟨a.toNat, by omega⟩
    have hk : k ≤ t.size := by omega
    have hki : (k : Int) ≤ t.size := by omega
    have hlt2 := hs2.lt
    go_wp2_with fail
    have hbc : ∀ i, i < 7 → ∃ s : ByteArray, s.size ≤ 8 ∧ ((w2.alloc (.cells bents 9)).drew).cell? ⟨w2.heap.size, i, none⟩ = some (.string s) := bents_cells w2
    have hsA : Srd w0 ((w2.alloc (.cells bents 9)).drew) g A n c xs (top + 2 + 2) := hs2.after (((Ext.refl _).alloc _).drew)
    have hGA : w.grownBy ((w2.alloc (.cells bents 9)).drew) (some g) := grown_drewN (grown_new (grown_trans hg1 hg2) _) 1
    go_region_held3 (fun wz => g < wz.heap.size) (first | assumption | exact hs3.lt | (simp; omega))
      (first | (go_at_call 72; (with_reducible refine (textL_any w2.heap.size 7 w0 ((w2.alloc (.cells bents 9)).drew) g A n c xs _ hsA (by omega) (by omega) (hsA.lt_of hlt2) (by omega) hbc).mono ?_); rintro e w3 ⟨s, rfl, hss, hs3, hg3⟩; have hG3 := grown_trans hGA hg3; have hb1 : ¬ 9223372036854775807 < k + s.size := (by omega); have hb2 : ¬ 9223372036854775807 < k + s.size + (t.size - k) := (by omega)))
    have HF : Hid ((t.extract 0 k ++ s ++ t.extract k t.size).size ≤ t.size + 8) := (by show _ ≤ _; rw [ByteArray.size_append, ByteArray.size_append, ByteArray.size_extract, ByteArray.size_extract]; omega)
    have HS : Hid (Srd w0 w3 g A n c xs (top + 10)) := hs3.more (by omega)
    have HG := Lib.hid hG3
    clear hbc hsA hGA hs3 hG3 hg3 hb1 hb2
    go_wp2
    go_ret
    exact ⟨_, rfl, HF.out, HS.out, HG.out⟩
  · by_cases h0 : t.size = 0
    · have ht0 := empty_of t h0
      subst ht0
      go_wp2
      go_ret
      exact ⟨⟨#[]⟩, rfl, by omega, hs1.more (by omega), hg1⟩
    · have hem := empty_no t h0
      go_wp2_with fail
      (with_reducible refine (pick_any t.size w0 _ g A n c xs _ hs1 (by omega)).mono ?_)
      rintro e w2 ⟨a, rfl, ha, hs2, hg2⟩
      obtain ⟨k, rfl⟩ : ∃ k : Nat, a = k := ⟨a.toNat, by omega⟩
      have hk : k < t.size := by omega
      have hki : (k : Int) < t.size := by omega
      have hb1 : ¬ 9223372036854775807 < k + (t.size - (k + 1)) := by omega
      go_wp2_with fail
      go_region
      have HF : Hid ((t.extract 0 k ++ t.extract (k + 1) t.size).size ≤ t.size + 8) := by show _ ≤ _; rw [ByteArray.size_append, ByteArray.size_extract, ByteArray.size_extract]; omega
      have HS : Hid (Srd w0 w2.drew g A n c xs (top + 10)) := (hs2.after (by with_reducible (repeat (first | exact Ext.refl _ | apply Ext.drewN | apply Ext.drew | apply Ext.alloc | (refine Ext.set ?_ (by first | (simp; done) | (simp; omega) | omega) _) | (refine Ext.trans ?_ (by assumption)))))).more (by omega)
      have HG := Lib.hid (grown_drewN (grown_trans hg1 hg2) 1)
      clear hs2 hg2 hb1
      go_wp2
      go_ret
      exact ⟨_, rfl, HF.out, HS.out, HG.out⟩
  · have n0 : (x == 0) = false := by simp; omega
    have n1 : (x == 1) = false := by simp; omega
    go_wp2
    go_ret
    exact ⟨t, rfl, by omega, hs1.more (by omega), hg1⟩
end Go.Proofs.YtinkaglngblddaaDoor
