/- A stable sort of rows that are in order leaves them as they are: the contract of sort.SliceStable at the program's own comparison. No condition but the stated bounds. -/
import Derived.Test.YtbldhfmhipdniaaShs
import Derived.Test.YtbldhfmhipdniaaStv
import Derived.Test.YtbldhfmhipdniaaCnx
import Derived.Deep.QuietTactic
import Derived.BigQuiet
import Derived.Shelf.GgSortMore.Stable
namespace Go.Proofs.Ytbldhfmhipdniaa
set_option linter.unusedVariables false
set_option linter.unusedSimpArgs false
open Go.RowKit Go.Joins

section
variable {α : Type} [Inhabited α] {lt : α → α → Bool}
theorem insInner_same {d : Array α} {m : Nat} (h : ∀ i j, i < j → j < m → lt d[j]! d[i]! = false) : ∀ j, j < m → Sort.insInner lt 0 j d = d
  | 0, _ => rfl
  | j + 1, hj => by
    unfold Sort.insInner
    rw [h j (j + 1) (by omega) hj]
    simp
theorem insOuter_same {d : Array α} {m : Nat} (h : ∀ i j, i < j → j < m → lt d[j]! d[i]! = false) : ∀ (k i : Nat), m - i = k → Sort.insOuter lt 0 m i d = d
  | 0, i, e => by
    unfold Sort.insOuter
    rw [if_neg (by omega)]
  | k + 1, i, e => by
    unfold Sort.insOuter
    rw [if_pos (by omega), insInner_same h i (by omega)]
    exact insOuter_same h k (i + 1) (by omega)
theorem ins_same {d : Array α} {m : Nat} (h : ∀ i j, i < j → j < m → lt d[j]! d[i]! = false) : Sort.insertionSort lt d 0 m = d := insOuter_same h _ _ rfl
end
theorem Ext.ahead {a w : World} (h : Ext a w) (n : Nat) : Ext a (Sort.ahead w n) := ⟨h.os, h.tape, h.output, h.size, h.block⟩
theorem Ext.grow {a w : World} (h : Ext a w) (os : Array Obj) : Ext a (Sort.grow w os) :=
  ⟨h.os, h.tape, h.output, by have := h.size; simp [Sort.grow]; omega, fun k hk => by
    rw [Sort.heap_grow_old _ _ (Nat.lt_of_lt_of_le hk h.size)]
    exact h.block k hk⟩
theorem grownBy_put {α : Type} [Inhabited α] (enc : α → Value) {w : World} {g n : Nat} {os : Array Obj} (d : Array α) : w.grownBy (Sort.grow (Sort.putRow enc (Sort.ahead w n) g 0 d) os) (some g) := by
  refine ⟨rfl, rfl, rfl, by simp, fun k hk hne => ?_⟩
  rw [Sort.heap_grow_old _ _ (by simpa using hk)]
  have : g ≠ k := fun e => hne (by rw [e])
  simp [Sort.putRow, Sort.mapBlock, Sort.ahead, Array.getElem?_modify, this]
theorem infoLL : (Try.prog.info? 25).map (fun i => i.desc) = some (.slice 30) := by kernel_rfl
theorem infoL : (Try.prog.info? 30).map (fun i => (i.size, i.bytes, i.hasPointers)) = some (1, 24, true) := by kernel_rfl
/-- An index, within bounds. -/
def cl (m j : Nat) : Nat := if j < m then j else 0
theorem cl_lt {m j : Nat} (h : j < m) : cl m j = j := if_pos h
theorem cl_bd {m : Nat} (j : Nat) (h : 0 < m) : cl m j < m := by unfold cl; split <;> omega
def encR (H : Nat → Option Addr × Nat) (L : List (List Int)) (m j : Nat) : Value := .slice (H (cl m j)).1 (ll L (cl m j)).length (H (cl m j)).2
def ltR (L : List (List Int)) (m i j : Nat) : Bool := decide (cmpL (ll L (cl m i)) (ll L (cl m j)) < 0)
/-- What is known of rows that are to be sorted. -/
structure Srd (w : World) (lo : Nat) (q : Nat) (Ao : Option Addr) (m co : Nat) (L : List (List Int)) (nn : Nat) : Prop where
  len : L.length = m
  rows : ∃ H, LRowF w lo w.heap.size Ao m co H (ll L)
  box : OBx w q Ao m co
  ql : q < w.heap.size
  apart : ∀ b, Ao.map (·.block) = some b → b ≠ q
  qrow : ∀ H, LRowF w lo w.heap.size Ao m co H (ll L) → ∀ i, i < m → ∀ b, (H i).1.map (·.block) = some b → b ≠ q
  same : ∀ i, i < m → (ll L i).length = nn
  bds : ∀ i, i < m → ∀ y ∈ ll L i, -9223372036854775808 ≤ y ∧ y ≤ 9223372036854775807
  nl : nn ≤ 1000
set_option maxHeartbeats 2000000 in
theorem less44 (W : World) (q blk m co i j : Nat) (A B : Option Addr) (c d nn : Nat) (xs ys : List Int) (hb : W.cell? ⟨q, 0, none⟩ = some (.slice (some ⟨blk, 0, none⟩) m co)) (hi : i < m) (hj : j < m)
    (ci : W.cell? ⟨blk, i, none⟩ = some (.slice A nn c)) (cj : W.cell? ⟨blk, j, none⟩ = some (.slice B nn d)) (hI : Ints W A nn xs) (hJ : Ints W B nn ys) :
    Calls Try.prog 44 #[.int .i64 i, .int .i64 j, .pointer (some ⟨q, 0, none⟩)] W fun e w' => e = .returned (.bool (decide (cmpL xs ys < 0))) ∧ ∃ n, w' = W.drewN n := by
  have i0 : (0 : Int) ≤ i := by omega
  have i1 : (i : Int) < m := by omega
  have j0 : (0 : Int) ≤ j := by omega
  have j1 : (j : Int) < m := by omega
  obtain ⟨z, hz⟩ : ∃ z, cmpL xs ys = z := ⟨_, rfl⟩
  have HC : Hid (∀ W2, Ext W W2 → Calls Try.prog 45 #[.slice A nn c, .slice B nn d] W2 fun e w' => e = .returned (.int .i64 z) ∧ Qt W2 w') := fun W2 k => by
    rw [← hz]
    exact compareP_any A B nn c d xs ys W2 (hI.ext k) (hJ.ext k)
  rw [hz]
  clear hz
  by_cases hneg : z < 0
  · have hn1 : decide (z < 0) = true := decide_eq_true hneg
    rw [hn1]
    go_enter Try.func44, Try.ntmps44
    go_wp2
    go_quiet ((go_at_call 45; first | with_reducible exact quiet_q (HC.out _ ((Ext.refl _).drewN _)) | with_reducible exact quiet_qa (HC.out _ ((Ext.refl _).drewN _))))
    go_wp2
    go_ret
    exact ⟨rfl, nq, rfl⟩
  · have hn1 : decide (z < 0) = false := decide_eq_false hneg
    rw [hn1]
    go_enter Try.func44, Try.ntmps44
    go_wp2
    go_quiet ((go_at_call 45; first | with_reducible exact quiet_q (HC.out _ ((Ext.refl _).drewN _)) | with_reducible exact quiet_qa (HC.out _ ((Ext.refl _).drewN _))))
    go_wp2
    go_ret
    exact ⟨rfl, nq, rfl⟩
theorem ent44 (args : Array Value) (w : World) : (callFunc 44 args).run Try.prog w = .ok (.enter 44 args) w := enters_of Try.func44 (by kernel_rfl) rfl args w
set_option maxHeartbeats 1000000 in
theorem sort_keep (w : World) (lo q : Nat) (Ao : Option Addr) (m co : Nat) (L : List (List Int)) (nn : Nat) (hS : Srd w lo q Ao m co L nn) (hasc : L.Pairwise (fun p q => cmpL p q = -1)) (hm : m ≤ 20) (hasc2 : ∀ i j, i < j → j < m → cmpL (ll L j) (ll L i) = 1) :
    Calls Try.prog 43 #[.iface 25 (.slice Ao m co), .func (.func 44) #[] #[.pointer (some ⟨q, 0, none⟩)]] w fun e w' => e = .returned (.tuple #[]) ∧ Ext w w' := by
  obtain ⟨iT, hiT, hdT⟩ := Option.map_eq_some_iff.1 infoLL
  obtain ⟨iE, hiE, hE⟩ := Option.map_eq_some_iff.1 infoL
  simp only [Prod.mk.injEq] at hE
  obtain ⟨hE1, hE2, hE3⟩ := hE
  by_cases h2 : 2 ≤ m
  · obtain ⟨H, hF⟩ := hS.rows
    obtain ⟨blk, rfl, hbw, _, _⟩ := hF.form (by omega)
    have hcells : ∀ k, k < m → w.cell? ⟨blk, k, none⟩ = some (encR H L m k) ∧ w.frozen? ⟨blk, k, none⟩ = false := fun k hk => by
      obtain ⟨e1, e2⟩ := hF.cells hk
      unfold encR
      rw [cl_lt hk]
      exact ⟨e1, e2⟩
    have hd : ∀ j, j < m → (Array.range m)[j]! = j := fun j hj => by
      rw [getElem!_pos _ _ (by simpa using hj)]
      simp
    have hHold : Sort.Holds (encR H L m) w blk 0 (Array.range m) := fun j hj => by
      rw [Array.size_range] at hj
      rw [Nat.zero_add, hd j hj]
      exact hcells j hj
    have hqb : q ≠ blk := fun e => hS.apart blk rfl e.symm
    have hless : LessReads Try.prog 44 #[.pointer (some ⟨q, 0, none⟩)] (encR H L m) (ltR L m) blk 0 (Array.range m).size w := by
      intro mm os dk hs i j hi hj
      rw [Array.size_range] at hs hi hj
      have hg := grownBy_put (encR H L m) (w := w) (g := blk) (n := mm) (os := os) dk
      have hrow : ∀ k, k < m → Ints (sortWorld (encR H L m) w blk 0 mm dk os) (H k).1 nn (ll L k) := fun k hk => by
        have h1 := ((hF.rows k hk).beside hg (fun g' e e2 => by cases e; exact hF.alone k hk _ e2 rfl)).ints (by have := hS.same k hk; have := hS.nl; omega) (hS.bds k hk)
        rw [Nat.mul_one, hS.same k hk] at h1
        exact h1
      have hcell : ∀ k, k < m → (sortWorld (encR H L m) w blk 0 mm dk os).cell? ⟨blk, k, none⟩ = some (encR H L m dk[k]!) := fun k hk => by
        unfold sortWorld
        rw [Sort.cell?_grow _ _ _ (by simpa using hbw)]
        have h1 := Sort.cell?_putRow (encR H L m) (Sort.ahead w mm) blk 0 (Array.range m) dk hHold (by rw [Array.size_range]; exact hs) k (by omega)
        rwa [Nat.zero_add] at h1
      have hbox : (sortWorld (encR H L m) w blk 0 mm dk os).cell? ⟨q, 0, none⟩ = some (.slice (some ⟨blk, 0, none⟩) m co) := by
        exact (World.cell?_of_block (a := ⟨q, 0, none⟩) (hg.block q hS.ql (by simpa using hqb))).trans hS.box.c0
      have ki := cl_bd (m := m) dk[i]! (by omega)
      have kj := cl_bd (m := m) dk[j]! (by omega)
      have ci := hcell i hi
      have cj := hcell j hj
      unfold encR at ci cj
      rw [hS.same _ ki] at ci
      rw [hS.same _ kj] at cj
      exact less44 _ q blk m co i j _ _ _ _ nn _ _ hbox hi hj ci cj (hrow _ ki) (hrow _ kj)
    have hsw : Lib.swapperK (Array.range m).size iE 23 = 9 := by
      rw [Array.size_range]
      have c1 : (m == 0) = false := by simp; omega
      have c2 : (m == 1) = false := by simp; omega
      simp [Lib.swapperK, c1, c2, hE2, hE3]
    have hR := Any.sort_SliceStable_small Try.laysGt8 25 30 iT iE hiT hdT (by kernel_rfl) hiE 23 (fun _ => by kernel_rfl) hE1 (fun _ => by kernel_rfl) (encR H L m) (fun _ => rfl) (ltR L m) 44 _ ent44 blk 0 co (Array.range m) (by rw [Array.size_range]; exact h2) (by rw [Array.size_range]; exact hm) 84 (by rw [hsw]; kernel_rfl) false
      (fun args W => run_callFunc_extern Try.func84 (by kernel_rfl) (by kernel_rfl) (by kernel_rfl) (e := Extern.ReflectliteSwapper.swap false) (by kernel_rfl) args W) w hless hHold hbw
    rw [Array.size_range] at hR
    refine Calls.mono (P := Try.prog) hR (fun e w' => ?_)
    rintro ⟨rfl, n, os, rfl⟩
    refine ⟨rfl, ?_⟩
    have hins : Sort.insertionSort (ltR L m) (Array.range m) 0 m = Array.range m := ins_same (fun i j hij hj => by
      rw [hd j hj, hd i (by omega)]
      unfold ltR
      rw [cl_lt hj, cl_lt (show i < m by omega), hasc2 i j hij hj]
      rfl)
    rw [hins, Sort.putRow_self _ _ _ _ _ (Sort.holds_ahead _ _ _ _ _ _ hHold)]
    exact ((Ext.refl w).ahead n).grow os
  · have ht : ∀ f, Try.prog.funcs.findIdx? (·.name == "internal/reflectlite" ++ ".Swapper$" ++ toString (Lib.swapperK m iE 23)) = some f → Calls Try.prog 43 #[.iface 25 (.slice Ao m co), .func (.func 44) #[] #[.pointer (some ⟨q, 0, none⟩)]] w fun e w' => e = .returned (.tuple #[]) ∧ Ext w w' := fun f hf => by
      have hR := Any.sort_SliceStable_tiny Try.laysGt8 25 30 iT iE hiT hdT (by kernel_rfl) hiE 23 (fun _ => by kernel_rfl) Ao m co (by omega) f hf (.func 44) #[] #[.pointer (some ⟨q, 0, none⟩)] w
      refine Calls.mono (P := Try.prog) hR (fun e w' => ?_)
      rintro ⟨rfl, os, rfl⟩
      exact ⟨rfl, (Ext.refl w).grow os⟩
    rcases (show m = 0 ∨ m = 1 by omega) with rfl | rfl
    · exact ht 76 (by rw [show Lib.swapperK 0 iE 23 = 1 by simp [Lib.swapperK]]; kernel_rfl)
    · exact ht 77 (by rw [show Lib.swapperK 1 iE 23 = 2 by simp [Lib.swapperK]]; kernel_rfl)
end Go.Proofs.Ytbldhfmhipdniaa
