/- Lsr Drw Drv in one text (a claim has at most 60 files). No condition but the stated bounds. -/
import Derived.Test.YtbihbhdaenhdoaaGreatApp
import Derived.Deep.DeepCutAuto
import Derived.Laws.BitsAllLaws
import Derived.Test.YtbihbhdaenhdoaaGreatNum
import Derived.Test.YtbihbhdaenhdoaaGreatCla
namespace Go.Proofs.YtbihbhdaenhdoaaGreat
set_option linter.unusedVariables false
set_option linter.unusedSimpArgs false
open Go.ChangeShapes Go.WideShapes Go.ChangeAt Go.RowKit Go.Joins

/-- The slice (A, n) holds the bytes xs. -/
structure Byts (w : World) (A : Option Addr) (n : Nat) (xs : List Int) : Prop where
  len : xs.length = n
  small : n ≤ 9223372036854775807
  bds : ∀ i, i < n → 0 ≤ xs[i]?.getD 0 ∧ xs[i]?.getD 0 ≤ 255
  at_ : 0 < n → ∃ b off, A = some ⟨b, off, none⟩ ∧ b < w.heap.size ∧ ∀ i, i < n → w.cell? ⟨b, off + i, none⟩ = some (.int .u8 (xs[i]?.getD 0))
theorem Byts.ext {w w' : World} {A : Option Addr} {n : Nat} {xs : List Int} (h : Byts w A n xs) (k : Ext w w') : Byts w' A n xs :=
  ⟨h.len, h.small, h.bds, fun hn => by
    obtain ⟨b, off, e, hb, hc⟩ := h.at_ hn
    exact ⟨b, off, e, Nat.lt_of_lt_of_le hb k.size, fun i hi => k.cell hb (hc i hi)⟩⟩
theorem bounds_u8 {n : Int} (h : (Lit.int .u8 n).wf = true) : 0 ≤ n ∧ n ≤ 255 := by
  simp [Lit.wf, IntKind.min, IntKind.max, IntKind.bits, IntKind.signed] at h
  omega
/-- An argument's reading. -/
theorem argByts {H : Type} {enc : TypeId × Value → H} {P : Program} {W : World} {t e : TypeId} {A : Option Addr} {n c : Nat} {d : DataW H} {p : List MemPlace} (ht : P.underlying t = some (.slice e)) (he : P.underlying e = some (.int .u8)) (hc : P.cellsOf e = 1)
    (h : DataW.Trod enc P W 0 (fun _ => true) true t (.slice A n c) d p) : ∃ xs, Byts W A n xs := by
  obtain ⟨fuel, hf⟩ := h
  rcases open_ints ht he hc hf with ⟨hcs, hx⟩ | ⟨a, len, cap, zs, hcs, _, hl, hm, hz, hx, hcell, hwz⟩
  · obtain ⟨rfl, rfl, rfl⟩ : A = none ∧ n = 0 ∧ c = 0 := by simpa [Value.cells] using hcs
    exact ⟨[], rfl, by omega, fun i h => absurd h (by omega), fun h => absurd h (by omega)⟩
  · obtain ⟨rfl, rfl, rfl⟩ : A = some a ∧ n = len ∧ c = cap := by simpa [Value.cells] using hcs
    simp only [if_true] at hz
    unfold maxLen at hm
    have hg : ∀ i, i < n → (zs.take n)[i]?.getD 0 = zs[i]?.getD 0 := fun i hi => by simp [hi]
    refine ⟨zs.take n, by simp; omega, by omega, fun i hi => ?_, fun hn => ?_⟩
    · rw [hg i hi, List.getElem?_eq_getElem (by omega)]
      exact bounds_u8 (hwz _ (List.getElem_mem _))
    · obtain ⟨b, off, spot⟩ := a
      have hspot : spot = none := by simpa [Addr.add] using World.cell?_spot (hcell 0 (by omega))
      subst hspot
      have hcc : ∀ j, j < zs.length → W.cell? ⟨b, off + j, none⟩ = some (.int .u8 (zs[j]?.getD 0)) := fun j hj => by
        rw [← Go.WideShapes.add_plain, hcell j hj]
        simp
      refine ⟨b, off, rfl, cell_lt (hcc 0 (by omega)), fun i hi => ?_⟩
      rw [hcc i (by omega), hg i hi]
/-- The source of choices: the block g, made behind w0, tells the bytes (A, n, c), a place that is at most 'top', and a seed. -/
structure Srd (w0 w : World) (g : Nat) (A : Option Addr) (n c : Nat) (xs : List Int) (top : Nat) : Prop where
  byts : Byts w0 A n xs
  born : w0.heap.size ≤ g
  ext : Ext w0 w
  at_ : ∃ (k : Nat) (z : Int), k ≤ top ∧ 0 ≤ z ∧ z ≤ 18446744073709551615 ∧ w.heap[g]? = some (.cells #[.slice A n c, .int .i64 k, .int .u64 z] 84 (0, 0))
section
variable {w0 w w' : World} {g n c top : Nat} {A : Option Addr} {xs : List Int}
theorem Srd.lt (h : Srd w0 w g A n c xs top) : g < w.heap.size := by
  obtain ⟨k, z, _, _, _, hb⟩ := h.at_
  exact (Array.getElem?_eq_some_iff.1 hb).1
theorem Srd.after (h : Srd w0 w g A n c xs top) (k : Ext w w') : Srd w0 w' g A n c xs top := by
  obtain ⟨q, z, h1, h2, h3, hb⟩ := h.at_
  exact ⟨h.byts, h.born, h.ext.trans k, q, z, h1, h2, h3, by rw [Below.block k g h.lt]; exact hb⟩
/-- Another block is written. -/
theorem Srd.apart (h : Srd w0 w g A n c xs top) {row : Option Nat} (k : w.grownBy w' row) (hr : row ≠ some g) (hx : Ext w0 w') : Srd w0 w' g A n c xs top := by
  obtain ⟨q, z, h1, h2, h3, hb⟩ := h.at_
  exact ⟨h.byts, h.born, hx, q, z, h1, h2, h3, by rw [k.block g h.lt (fun e => hr e.symm)]; exact hb⟩
theorem Srd.more (h : Srd w0 w g A n c xs top) {top' : Nat} (k : top ≤ top') : Srd w0 w g A n c xs top' := by
  obtain ⟨q, z, h1, h2, h3, hb⟩ := h.at_
  exact ⟨h.byts, h.born, h.ext, q, z, by omega, h2, h3, hb⟩
end
/-- What a draw does: a number of which p tells, and the source stands further on. -/
def Drawn (w0 w : World) (g : Nat) (A : Option Addr) (n c : Nat) (xs : List Int) (top : Nat) (p : Int → Prop) (e : Ending) (w' : World) : Prop :=
  ∃ x : Int, e = .returned (.int .i64 x) ∧ p x ∧ Srd w0 w' g A n c xs top ∧ w.grownBy w' (some g)
theorem grown_trans {a w w' : World} {row : Option Nat} (h : a.grownBy w row) (k : w.grownBy w' row) : a.grownBy w' row :=
  ⟨k.os.trans h.os, k.tape.trans h.tape, k.output.trans h.output, Nat.le_trans h.size k.size, fun i hi hne => (k.block i (Nat.lt_of_lt_of_le hi h.size) hne).trans (h.block i hi hne)⟩
theorem grown_cell {w w' : World} {g b : Nat} (k : w.grownBy w' (some g)) (hb : b < w.heap.size) (hne : b ≠ g) (o : Nat) : w'.cell? ⟨b, o, none⟩ = w.cell? ⟨b, o, none⟩ :=
  World.cell?_of_block (k.block b hb (by rintro e; cases e; exact hne rfl))
theorem grown_drewN {a w : World} {row : Option Nat} (h : a.grownBy w row) (m : Nat) : a.grownBy (w.drewN m) row := ⟨h.os, h.tape, h.output, h.size, h.block⟩
theorem u64_bd (e : Int) : 0 ≤ IntKind.u64.wrap e ∧ IntKind.u64.wrap e ≤ 18446744073709551615 := by
  simp [IntKind.wrap, IntKind.bits, IntKind.signed]
  omega
theorem low8 (e : Int) : 0 ≤ RowKit.wrap64 (bits BinOp.and IntKind.u64 (IntKind.u64.wrap e / 1099511627776) 255) ∧ RowKit.wrap64 (bits BinOp.and IntKind.u64 (IntKind.u64.wrap e / 1099511627776) 255) ≤ 255 := by
  obtain ⟨h0, h1⟩ := u64_bd e
  have e0 : (IntKind.u64.wrap e / 1099511627776).toNat &&& (255 : Int).toNat ≤ 255 := Nat.and_le_right
  rw [u64_and _ 255 (by omega) (by omega) (by omega) (by omega), IntWalk.wrap64_in _ (by omega)]
  omega
theorem drewN_heap (w : World) (m : Nat) : (w.drewN m).heap = w.heap := rfl
theorem srd_step {w0 w : World} {g n c top : Nat} {A : Option Addr} {xs : List Int} (h : Srd w0 w g A n c xs top) {k : Nat} (hk : k ≤ top) {z : Int} (hb : w.heap[g]? = some (.cells #[.slice A n c, .int .i64 k, .int .u64 z] 84 (0, 0))) (q1 q2 : Nat) (y : Int) (hy : 0 ≤ y ∧ y ≤ 18446744073709551615) :
    Srd w0 ((((w.drewN q1).setCell ⟨g, 1, none⟩ (.int .i64 ((k : Int) + 1))).setCell ⟨g, 2, none⟩ (.int .u64 y)).drewN q2) g A n c xs (top + 1) ∧ w.grownBy ((((w.drewN q1).setCell ⟨g, 1, none⟩ (.int .i64 ((k : Int) + 1))).setCell ⟨g, 2, none⟩ (.int .u64 y)).drewN q2) (some g) := by
  obtain ⟨u0, u1⟩ := hy
  have hborn := h.born
  have hx0 := h.ext
  have b1 := block_setCell (w := w.drewN q1) (i := 1) hb (.int .i64 ((k : Int) + 1))
  have b2 := block_setCell (i := 2) b1 (.int .u64 y)
  have e1 : ((#[Value.slice A n c, .int .i64 k, .int .u64 z].setIfInBounds 1 (.int .i64 ((k : Int) + 1))).setIfInBounds 2 (.int .u64 y)) = #[.slice A n c, .int .i64 ((k : Int) + 1), .int .u64 y] := by simp [Array.setIfInBounds]
  rw [e1] at b2
  refine ⟨⟨h.byts, h.born, (by with_reducible (repeat (first | exact Ext.refl _ | apply Ext.drewN | apply Ext.drew | apply Ext.alloc | (refine Ext.set ?_ (by first | (simp; done) | (simp; omega) | omega) _) | (refine Ext.trans ?_ (by assumption))))), k + 1, y, by omega, u0, u1, ?_⟩, ?_⟩
  · rw [drewN_heap, show ((k + 1 : Nat) : Int) = (k : Int) + 1 by omega]
    exact b2
  · have g1 := only_setCell (grown_drewN (World.grownBy.refl w (some g)) q1) (p := ⟨g, 1, none⟩) rfl (.int .i64 ((k : Int) + 1))
    have g2 := only_setCell g1 (p := ⟨g, 2, none⟩) rfl (.int .u64 y)
    exact grown_drewN g2 q2
theorem l00From_any (A : Option Addr) (n c : Nat) (xs : List Int) (w : World) (hB : Byts w A n xs) :
    Calls Tryz.prog 18 #[.slice A n c] w fun e w' => ∃ g, e = .returned (.pointer (some ⟨g, 0, none⟩)) ∧ Srd w w' g A n c xs 0 ∧ g = w.heap.size := by
  go_enter Tryz.func18, Tryz.ntmps18
  go_wp2
  go_ret
  exact ⟨_, rfl, ⟨hB, Nat.le_refl _, (by with_reducible (repeat (first | exact Ext.refl _ | apply Ext.drewN | apply Ext.drew | apply Ext.alloc | (refine Ext.set ?_ (by first | (simp; done) | (simp; omega) | omega) _) | (refine Ext.trans ?_ (by assumption))))), 0, 0, by omega, by omega, by omega, heap_alloc_new _ _⟩, rfl⟩
set_option maxHeartbeats 1000000 in
set_option maxRecDepth 100000 in
theorem next_any (w0 w : World) (g : Nat) (A : Option Addr) (n c : Nat) (xs : List Int) (top : Nat) (h : Srd w0 w g A n c xs top) (ht : top ≤ 1000000000) :
    Calls Tryz.prog 56 #[.pointer (some ⟨g, 0, none⟩)] w (Drawn w0 w g A n c xs (top + 1) (fun x => 0 ≤ x ∧ x ≤ 255)) := by
  obtain ⟨k, z, hk, hz0, hz1, hb⟩ := h.at_
  have hby := h.byts.ext h.ext
  have hsm := hby.small
  have c0 : w.cell? ⟨g, 0, none⟩ = some (.slice A n c) := (cell_of_block hb _).trans rfl
  have c1 : w.cell? ⟨g, 1, none⟩ = some (.int .i64 k) := (cell_of_block hb _).trans rfl
  have c2 : w.cell? ⟨g, 2, none⟩ = some (.int .u64 z) := (cell_of_block hb _).trans rfl
  have f0 := fun o => unfrozen_of_block hb o
  have f1 := f0 1
  have f2 := f0 2
  clear f0
  have hborn := h.born
  have hx0 := h.ext
  by_cases hlt : k < n
  · obtain ⟨b, off, rfl, hbz, hcell⟩ := hby.at_ (by omega)
    have c3 := hcell k hlt
    have hx := hby.bds k hlt
    have hki : (k : Int) < n := by omega
    have hki2 : (k : Int) + 1 ≤ n := by omega
    generalize xs[k]?.getD 0 = x at *
    clear hcell
    go_enter Tryz.func56, Tryz.ntmps56
    go_wp2
    go_quiet (fail)
    go_wp2
    go_quiet (fail)
    go_wp2
    go_quiet (fail)
    go_wp2
    go_ret
    exact ⟨x, rfl, hx, (srd_step h hk hb _ _ _ (u64_bd _)).1, (srd_step h hk hb _ _ _ (u64_bd _)).2⟩
  · have hki : ¬ (k : Int) < n := by omega
    have hki2 : ¬ (k : Int) + 1 ≤ n := by omega
    go_enter Tryz.func56, Tryz.ntmps56
    go_wp2
    go_quiet (fail)
    go_wp2
    go_quiet (fail)
    go_wp2
    go_ret
    exact ⟨_, rfl, low8 _, (srd_step h hk hb _ _ _ (u64_bd _)).1, (srd_step h hk hb _ _ _ (u64_bd _)).2⟩
set_option maxHeartbeats 1000000 in
theorem pick_any (m : Int) (w0 w : World) (g : Nat) (A : Option Addr) (n c : Nat) (xs : List Int) (top : Nat) (h : Srd w0 w g A n c xs top) (ht : top ≤ 999999999) :
    Calls Tryz.prog 20 #[.pointer (some ⟨g, 0, none⟩), .int .i64 m] w (Drawn w0 w g A n c xs (top + 2) (fun x => 0 ≤ x ∧ x ≤ 65535 ∧ (x < m ∨ x = 0 ∧ m ≤ 1))) := by
  by_cases h1 : m ≤ 1
  · go_enter Tryz.func20, Tryz.ntmps20
    go_wp2
    go_ret
    exact ⟨0, rfl, by omega, h.more (by omega), World.grownBy.refl _ _⟩
  · by_cases h2 : 200 < m
    · go_enter Tryz.func20, Tryz.ntmps20
      go_wp2_with fail
      (with_reducible refine (next_any w0 _ g A n c xs top h (by omega)).mono ?_)
      rintro e w1 ⟨x, rfl, hx, hs1, hg1⟩
      go_wp2_with fail
      (with_reducible refine (next_any w0 _ g A n c xs (top + 1) hs1 (by omega)).mono ?_)
      rintro e w2 ⟨y, rfl, hy, hs2, hg2⟩
      have hq : 0 ≤ x * 256 + y := by omega
      obtain ⟨v, hv⟩ : ∃ v, x * 256 + y = v := ⟨_, rfl⟩
      rw [hv] at hq
      have hv2 : v ≤ 65535 := by omega
      have e1 := Int.emod_nonneg v (show m ≠ 0 by omega)
      have e2 := Int.emod_lt_of_pos v (show 0 < m by omega)
      have e3 : v % m ≤ v := by have h1 := Int.emod_add_mul_ediv v m; have h2 : 0 ≤ v / m := Int.ediv_nonneg hq (by omega); have h3 : 0 ≤ m * (v / m) := Int.mul_nonneg (by omega) h2; omega
      go_wp2
      go_ret
      exact ⟨v % m, by rw [← hv]; rfl, by omega, hs2, grown_trans hg1 hg2⟩
    · go_enter Tryz.func20, Tryz.ntmps20
      go_wp2_with fail
      (with_reducible refine (next_any w0 _ g A n c xs top h (by omega)).mono ?_)
      rintro e w1 ⟨v, rfl, hx, hs1, hg1⟩
      have e1 := Int.emod_nonneg v (show m ≠ 0 by omega)
      have e2 := Int.emod_lt_of_pos v (show 0 < m by omega)
      go_wp2
      go_ret
      exact ⟨v % m, rfl, by omega, hs1.more (by omega), hg1⟩
theorem one_any (m : Int) (w0 w : World) (g : Nat) (A : Option Addr) (n c : Nat) (xs : List Int) (top : Nat) (h : Srd w0 w g A n c xs top) (ht : top ≤ 999999999) :
    Calls Tryz.prog 42 #[.pointer (some ⟨g, 0, none⟩), .int .i64 m] w fun e w' => ∃ b : Bool, e = .returned (.bool b) ∧ Srd w0 w' g A n c xs (top + 2) ∧ w.grownBy w' (some g) := by
  go_enter Tryz.func42, Tryz.ntmps42
  go_wp2_with fail
  (with_reducible refine (pick_any m w0 _ g A n c xs top h ht).mono ?_)
  rintro e w1 ⟨x, rfl, hx, hs1, hg1⟩
  go_wp2
  go_ret
  exact ⟨_, rfl, hs1, hg1⟩
end Go.Proofs.YtbihbhdaenhdoaaGreat

namespace Go.Proofs.YtbihbhdaenhdoaaGreat
set_option linter.unusedVariables false
set_option linter.unusedSimpArgs false
open Go.RowKit Go.Joins

/-- A drawn list of numbers, in memory made behind w. -/
def DrawnL (w0 w : World) (g : Nat) (A : Option Addr) (n c : Nat) (xs : List Int) (top least : Nat) (high : Int) (e : Ending) (w' : World) : Prop :=
  ∃ (B : Option Addr) (m d : Nat) (ys : List Int), e = .returned (.slice B m d) ∧ w'.ownsRow w.heap.size 2 1 (.slice B m d) m (ys.map (Value.int .i64)) ∧ (least ≤ m ∧ m ≤ 20) ∧ (∀ y ∈ ys, -20 ≤ y ∧ y ≤ high) ∧ Srd w0 w' g A n c xs top ∧ w.grownBy w' (some g)
theorem own_keep {w w' : World} {lo g : Nat} {e : TypeId} {m n : Nat} {v : Value} {cs : List Value} (h : w.ownsRow lo e m v n cs) (hg : w.grownBy w' (some g)) (hlo : g < lo) : w'.ownsRow lo e m v n cs := by
  refine ⟨h.1, ?_⟩
  rcases h.2 with h0 | ⟨b, cap, cur, ev, hb, hh, rest⟩
  · exact .inl h0
  · exact .inr ⟨b, cap, cur, ev, hb, (hg.block b (Array.getElem?_eq_some_iff.1 hh).1 (by intro e; cases e; omega)).trans hh, rest⟩
theorem own_far {w w' : World} {lo : Nat} {e : TypeId} {m n : Nat} {v : Value} {cs : List Value} {row : Option Nat} (h : w.ownsRow lo e m v n cs) (hg : w.grownBy w' row) (hlo : ∀ k, row = some k → v.ownBlock ≠ some k) : w'.ownsRow lo e m v n cs := by
  refine ⟨h.1, ?_⟩
  rcases h.2 with h0 | ⟨b, cap, cur, ev, hb, hh, rest⟩
  · exact .inl h0
  · exact .inr ⟨b, cap, cur, ev, hb, (hg.block b (Array.getElem?_eq_some_iff.1 hh).1 (by intro e; exact hlo b e.symm (by rw [ev]; rfl))).trans hh, rest⟩
theorem own_ext {w w' : World} {lo : Nat} {e : TypeId} {m n : Nat} {v : Value} {cs : List Value} (h : w.ownsRow lo e m v n cs) (k : Ext w w') : w'.ownsRow lo e m v n cs := by
  refine ⟨h.1, ?_⟩
  rcases h.2 with h0 | ⟨b, cap, cur, ev, hb, hh, rest⟩
  · exact .inl h0
  · exact .inr ⟨b, cap, cur, ev, hb, (Below.block k b (Array.getElem?_eq_some_iff.1 hh).1).trans hh, rest⟩
theorem grown_own {a w w' : World} {g : Nat} {row : Option Nat} (h : a.grownBy w (some g)) (k : w.grownBy w' row) (hr : ∀ b, row = some b → a.heap.size ≤ b) : a.grownBy w' (some g) :=
  ⟨k.os.trans h.os, k.tape.trans h.tape, k.output.trans h.output, Nat.le_trans h.size k.size, fun i hi hne => (k.block i (Nat.lt_of_lt_of_le hi h.size) (by intro e; have := hr i e.symm; omega)).trans (h.block i hi hne)⟩
theorem grown_exts {a w w' : World} {row : Option Nat} (h : a.grownBy w row) (k : Ext w w') : a.grownBy w' row :=
  ⟨k.os.trans h.os, k.tape.trans h.tape, k.output.trans h.output, Nat.le_trans h.size k.size, fun i hi hne => (Below.block k i (Nat.lt_of_lt_of_le hi h.size)).trans (h.block i hi hne)⟩
theorem Srd.own {w0 w w' : World} {g n c top : Nat} {A : Option Addr} {xs : List Int} (h : Srd w0 w g A n c xs top) {row : Option Nat} (k : w.grownBy w' row) (hr : ∀ b, row = some b → g < b) : Srd w0 w' g A n c xs top :=
  h.apart k (by intro e; have := hr g e; omega) (h.ext.grown k (fun b hb => by have := hr b hb; have := h.born; omega))
theorem Srd.put {w0 w : World} {g n c top : Nat} {A : Option Addr} {xs : List Int} (h : Srd w0 w g A n c xs top) {p : Addr} (hp : g < p.block) (u : Value) : Srd w0 (w.setCell p u) g A n c xs top := by
  obtain ⟨q, z, h1, h2, h3, hb⟩ := h.at_
  exact ⟨h.byts, h.born, h.ext.set (by have := h.born; omega) u, q, z, h1, h2, h3, (Below.heap_setCell w p u g (fun e => by omega)).trans hb⟩
theorem grown_put {a w : World} {row : Option Nat} (h : a.grownBy w row) {p : Addr} (hp : a.heap.size ≤ p.block) (u : Value) : a.grownBy (w.setCell p u) row :=
  ⟨h.os, h.tape, h.output, by simpa [World.setCell] using h.size, fun i hi hne => (Below.heap_setCell w p u i (by omega)).trans (h.block i hi hne)⟩
theorem grown_new {a w : World} {row : Option Nat} (h : a.grownBy w row) (o : Obj) : a.grownBy (w.alloc o) row := grown_exts h ((Ext.refl _).alloc _)
theorem own_cell {w : World} {lo g n c : Nat} {ys : List Int} (h : w.ownsRow lo 2 1 (.slice (some ⟨g, 0, none⟩) n c) n (ys.map (Value.int .i64))) {p : Nat} (hp : p < n) : w.cell? ⟨g, p, none⟩ = some (.int .i64 (ys[p]?.getD 0)) ∧ w.frozen? ⟨g, p, none⟩ = false := by
  have hl : ys.length = n := by have := h.1; simpa using this
  refine ⟨?_, World.ownsRow.frozenAt h p⟩
  rw [World.ownsRow.cellAt h p (by omega), List.getElem?_map, List.getElem?_eq_getElem (show p < ys.length by omega)]
  rfl
theorem own_store {w : World} {lo g n c : Nat} {ys : List Int} (h : w.ownsRow lo 2 1 (.slice (some ⟨g, 0, none⟩) n c) n (ys.map (Value.int .i64))) (p : Nat) (v : Int) : (w.setCell ⟨g, p, none⟩ (.int .i64 v)).ownsRow lo 2 1 (.slice (some ⟨g, 0, none⟩) n c) n ((ys.set p v).map (Value.int .i64)) := by
  rw [List.map_set]
  exact (World.ownsRow.stored h p (.int .i64 v)).1
theorem getDbd {ys : List Int} {lo hi : Int} (h : ∀ y ∈ ys, lo ≤ y ∧ y ≤ hi) {i : Nat} (hi' : i < ys.length) : lo ≤ ys[i]?.getD 0 ∧ ys[i]?.getD 0 ≤ hi := by
  rw [List.getElem?_eq_getElem hi']
  exact h _ (List.getElem_mem _)
theorem set_bd {ys : List Int} {lo hi v : Int} (h : ∀ y ∈ ys, lo ≤ y ∧ y ≤ hi) (hv : lo ≤ v ∧ v ≤ hi) (i : Nat) : ∀ y ∈ ys.set i v, lo ≤ y ∧ y ≤ hi := fun y hy => by
  rcases List.mem_or_eq_of_mem_set hy with h1 | h1
  · exact h y h1
  · rw [h1]; exact hv
theorem app_bd {ys : List Int} {lo hi v : Int} (h : ∀ y ∈ ys, lo ≤ y ∧ y ≤ hi) (hv : lo ≤ v ∧ v ≤ hi) : ∀ y ∈ ys ++ [v], lo ≤ y ∧ y ≤ hi := fun y hy => by
  rw [List.mem_append] at hy
  rcases hy with h1 | h1
  · exact h y h1
  · simp at h1; rw [h1]; exact hv
theorem own_new (w : World) {lo : Nat} (h : lo ≤ w.heap.size) : (w.alloc (.cells #[] 2)).ownsRow lo 2 1 (.slice (some ⟨w.heap.size, 0, none⟩) 0 0) 0 (([] : List Int).map (Value.int .i64)) :=
  ⟨by simp, .inr ⟨w.heap.size, 0, #[], rfl, h, heap_alloc_new _ _, Nat.le_refl _, by simp [maxLen], by simp, by simp⟩⟩
set_option maxHeartbeats 4000000 in
set_option maxRecDepth 100000 in
theorem l02Draw_any (q : Nat) (w0 w : World) (g : Nat) (A : Option Addr) (n c : Nat) (xs : List Int) (top : Nat) (h : Srd w0 w g A n c xs top) (ht : top ≤ 900000000) (hq : 1 ≤ q ∧ q ≤ 7) :
    Calls Tryz.prog 85 #[.pointer (some ⟨g, 0, none⟩), .int .i64 q] w (DrawnL w0 w g A n c xs (top + 400) 1 9) := by
  have hlt := h.lt
  go_enter Tryz.func85, Tryz.ntmps85
  go_wp2_with fail
  (with_reducible refine (pick_any q w0 _ g A n c xs top h (by omega)).mono ?_)
  rintro e w1 ⟨x, rfl, hx, hs1, hg1⟩
  obtain ⟨r, hr⟩ : ∃ r : Nat, 1 + x = r := ⟨(1 + x).toNat, by omega⟩
  have hr7 : 1 ≤ r ∧ r ≤ 7 := by omega
  have hz1 := hg1.size
  have hg2 := grown_new hg1 (.cells #[] 2)
  have hs2 := hs1.after (show Ext w1 (w1.alloc (.cells #[] 2)) from (by with_reducible (repeat (first | exact Ext.refl _ | apply Ext.drewN | apply Ext.drew | apply Ext.alloc | (refine Ext.set ?_ (by first | (simp; done) | (simp; omega) | omega) _) | (refine Ext.trans ?_ (by assumption))))))
  go_wp2
  go_loopw [6, 7, 8] (fun v i _ wr => ∃ (k : Nat) (ys : List Int), k ≤ r ∧ i = .int .i64 k ∧ wr.ownsRow w.heap.size 2 1 v k (ys.map (Value.int .i64)) ∧ (∀ y ∈ ys, 0 ≤ y ∧ y ≤ 6) ∧ Srd w0 wr g A n c xs (top + 2 + 2 * k) ∧ w.grownBy wr (some g)) (fun _ i _ _ => r - (intOf i).toNat)
  case atStart => exact ⟨0, [], by omega, rfl, own_new w1 hz1, by simp, hs2, hg2⟩
  case round =>
    obtain ⟨k, ys, hk, rfl, hown, hbd, hsr, hgr⟩ := hrel
    by_cases hkr : k < r
    · have hki : (k : Int) < r := by omega
      have hzr := hgr.size
      have HB := Lib.hid hbd
      clear hbd
      go_wp2_with fail
      (with_reducible refine (pick_any (k + 1) w0 _ g A n c xs _ hsr (by omega)).mono ?_)
      rintro e w2 ⟨x2, rfl, hx2, hs3, hg3⟩
      obtain ⟨a, rfl⟩ : ∃ a : Nat, x2 = a := ⟨x2.toNat, by omega⟩
      have hgr2 := grown_trans hgr hg3
      have hown2 := own_keep hown hg3 hlt
      have hz2 := hgr2.size
      have hak : a = k ∨ (a < k ∧ (a : Int) < k) := by omega
      have hyl : ys.length = k := by have := hown.1; simpa using this
      have HZ : Hid (∀ y ∈ ((ys ++ [(k : Int)]).set k ((ys ++ [(k : Int)])[a]?.getD 0)).set a (k : Int), 0 ≤ y ∧ y ≤ 6) := by
        have h1 := app_bd (v := (k : Int)) HB.out (by omega)
        exact set_bd (set_bd h1 (getDbd h1 (by simp; omega)) k) (by omega) a
      clear hyl
      have hs4 := hs3.after (show Ext w2 (w2.alloc (.cells #[.int .i64 k] 2)) from (by with_reducible (repeat (first | exact Ext.refl _ | apply Ext.drewN | apply Ext.drew | apply Ext.alloc | (refine Ext.set ?_ (by first | (simp; done) | (simp; omega) | omega) _) | (refine Ext.trans ?_ (by assumption))))))
      have hgr3 := grown_new hgr2 (.cells #[.int .i64 k] 2)
      rcases hak with rfl | ⟨hak, haki⟩
      · go_wp2_with (first | (at_builtin; refine appL elInt (by omega) rfl _ _ Tryz.underlying24 rfl rfl (own_ext hown2 ((Ext.refl _).alloc _)) (by simp; omega) (by omega) rfl (heap_alloc_new _ _) (ys := [_]) (by rfl) (by rfl) ?_; intro v' w3 hown3 hg4; obtain ⟨g1, c1, hv1, hg1a, hg1b⟩ := World.ownsRow.form hown3 (by omega); subst hv1; obtain ⟨hcA, hfA⟩ := own_cell hown3 (p := a) (by omega)))
        go_roundw
        case rel => exact ⟨a + 1, _, by omega, by go_num, own_store (own_store hown3 _ _) _ _, HZ.out, ((hs4.own hg4 (fun b hb => Nat.lt_of_lt_of_le hlt (World.ownsRow.lt hown2 b hb).1)).put (by show g < g1; omega) _).put (by show g < g1; omega) _, grown_put (grown_put (grown_own hgr3 hg4 (fun b hb => (World.ownsRow.lt hown2 b hb).1)) (by show w.heap.size ≤ g1; omega) _) (by show w.heap.size ≤ g1; omega) _⟩
        case measure => simp [intOf]; omega
      · go_wp2_with (first | (at_builtin; refine appL elInt (by omega) rfl _ _ Tryz.underlying24 rfl rfl (own_ext hown2 ((Ext.refl _).alloc _)) (by simp; omega) (by omega) rfl (heap_alloc_new _ _) (ys := [_]) (by rfl) (by rfl) ?_; intro v' w3 hown3 hg4; obtain ⟨g1, c1, hv1, hg1a, hg1b⟩ := World.ownsRow.form hown3 (by omega); subst hv1; obtain ⟨hcA, hfA⟩ := own_cell hown3 (p := a) (by omega); obtain ⟨hcK, hfK⟩ := own_cell hown3 (p := k) (by omega)))
        go_roundw
        case rel => exact ⟨k + 1, _, by omega, by go_num, own_store (own_store hown3 _ _) _ _, HZ.out, ((hs4.own hg4 (fun b hb => Nat.lt_of_lt_of_le hlt (World.ownsRow.lt hown2 b hb).1)).put (by show g < g1; omega) _).put (by show g < g1; omega) _, grown_put (grown_put (grown_own hgr3 hg4 (fun b hb => (World.ownsRow.lt hown2 b hb).1)) (by show w.heap.size ≤ g1; omega) _) (by show w.heap.size ≤ g1; omega) _⟩
        case measure => simp [intOf]; omega
    · obtain rfl : k = r := by omega
      have hyl : ys.length = k := by have := hown.1; simpa using this
      obtain ⟨gl, cl, hvl, hgl1, hgl2⟩ := World.ownsRow.form hown (by omega)
      subst hvl
      have HB := Lib.hid hbd
      clear hbd
      obtain ⟨wo, rfl⟩ : ∃ wo : World, wo = wr := ⟨_, rfl⟩
      have hs2' := hsr.after (show Ext wo (wo.alloc (.cells #[] 2)) from (by with_reducible (repeat (first | exact Ext.refl _ | apply Ext.drewN | apply Ext.drew | apply Ext.alloc | (refine Ext.set ?_ (by first | (simp; done) | (simp; omega) | omega) _) | (refine Ext.trans ?_ (by assumption))))))
      have hgr2' := grown_new hgr (.cells #[] 2)
      have hown1 := own_ext hown (show Ext wo (wo.alloc (.cells #[] 2)) from (by with_reducible (repeat (first | exact Ext.refl _ | apply Ext.drewN | apply Ext.drew | apply Ext.alloc | (refine Ext.set ?_ (by first | (simp; done) | (simp; omega) | omega) _) | (refine Ext.trans ?_ (by assumption))))))
      have hzr := hgr.size
      go_wp2
      go_loopw [9, 10, 11] (fun v i _ wy => ∃ (j : Nat) (zs : List Int) (vv : Value), j ≤ k ∧ i = .int .i64 j ∧ vv = v ∧ wy.ownsRow wo.heap.size 2 1 vv j (zs.map (Value.int .i64)) ∧ (∀ y ∈ zs, 0 ≤ y ∧ y ≤ 9) ∧ wy.ownsRow w.heap.size 2 1 (.slice (some ⟨gl, 0, none⟩) k cl) k (ys.map (Value.int .i64)) ∧ Srd w0 wy g A n c xs (top + 20 + 30 * j) ∧ w.grownBy wy (some g) ∧ wo.heap.size ≤ wy.heap.size) (fun _ i _ _ => k - (intOf i).toNat)
      case atStart => exact ⟨0, [], _, by omega, rfl, rfl, own_new wo (Nat.le_refl _), by simp, hown1, hs2'.more (by omega), hgr2', by simp⟩
      case round =>
        obtain ⟨j, zs, vv, hj, rfl, rfl, hzo, hzb, hlo, hsy, hgy, hzy⟩ := hrel
        by_cases hjk : j < k
        · have hji : (j : Int) < k := by omega
          have HZB := Lib.hid hzb
          clear hzb
          obtain ⟨hcj, _⟩ := own_cell hlo (p := j) hjk
          have hyb := getDbd HB.out (i := j) (by omega)
          have e1 := Int.emod_nonneg (ys[j]?.getD 0 - j) (show (k : Int) ≠ 0 by omega)
          have e2 := Int.emod_lt_of_pos (ys[j]?.getD 0 - j) (show 0 < (k : Int) by omega)
          obtain ⟨t0, ht0⟩ : ∃ t0 : Nat, (ys[j]?.getD 0 - j) % (k : Int) = t0 := ⟨_, (Int.toNat_of_nonneg e1).symm⟩
          rw [ht0] at e1 e2
          have HT0 := Lib.hid ht0
          clear ht0
          generalize ys[j]?.getD 0 = yj at *
          go_wp2_with (first | (go_at_call 113; (with_reducible refine (l02Mod_is _ _ _ _ (by omega) (by omega) HT0.out).mono ?_); rintro e w' ⟨rfl, rfl⟩))
          go_loopw [11] (fun t wt => ∃ tt : Nat, tt ≤ 9 ∧ t = .int .i64 tt ∧ wt.ownsRow wo.heap.size 2 1 vv j (zs.map (Value.int .i64)) ∧ wt.ownsRow w.heap.size 2 1 (.slice (some ⟨gl, 0, none⟩) k cl) k (ys.map (Value.int .i64)) ∧ Srd w0 wt g A n c xs (top + 20 + 30 * j + 2 * tt) ∧ w.grownBy wt (some g) ∧ wo.heap.size ≤ wt.heap.size) (fun t _ => 20 - (intOf t).toNat)
          case atStart => exact ⟨t0, by omega, rfl, hzo, hlo, hsy.more (by omega), hgy, hzy⟩
          case round =>
            obtain ⟨tt, htt, rfl, hzo2, hlo2, hst, hgt, hzt⟩ := hrel
            by_cases h9 : (tt : Int) + k ≤ 9
            · go_wp2_with fail
              (with_reducible refine (one_any 2 w0 _ g A n c xs _ hst (by omega)).mono ?_)
              rintro e w4 ⟨b, rfl, hs5, hg5⟩
              have hzo3 := own_keep hzo2 hg5 (by omega)
              have hlo3 := own_keep hlo2 hg5 hlt
              have hgy3 := grown_trans hgt hg5
              have hz4 := hg5.size
              cases b
              · go_wp2_with (first | (at_builtin; refine appL elInt (by omega) rfl _ _ Tryz.underlying24 rfl rfl (own_ext hzo3 ((Ext.refl _).alloc _)) (by simp; omega) (by omega) rfl (heap_alloc_new _ _) (ys := [_]) (by rfl) (by rfl) ?_; intro v' w3 hown3 hg4))
                go_roundw
                case rel => exact ⟨j + 1, _, _, by omega, by go_num, rfl, hown3, app_bd HZB.out (by omega), own_far (own_ext hlo3 ((Ext.refl _).alloc _)) hg4 (fun b hb e => by have h1 := (World.ownsRow.lt hzo3 b hb).1; cases e; have h2 : wo.heap.size ≤ gl := h1; omega), ((hs5.after ((Ext.refl _).alloc _)).own hg4 (fun b hb => by have h1 := (World.ownsRow.lt hzo3 b hb).1; omega)).more (by omega), grown_own (grown_new hgy3 _) hg4 (fun b hb => by have h1 := (World.ownsRow.lt hzo3 b hb).1; omega), by have h1 := hg4.size; simp at h1; omega⟩
                case measure => simp [intOf]; omega
              · go_wp2
                go_roundw
                case rel => exact ⟨tt + k, by omega, by go_num, hzo3, hlo3, hs5.more (by omega), hgy3, by omega⟩
                case measure => simp [intOf]; omega
            · go_wp2_with (first | (at_builtin; refine appL elInt (by omega) rfl _ _ Tryz.underlying24 rfl rfl (own_ext hzo2 ((Ext.refl _).alloc _)) (by simp; omega) (by omega) rfl (heap_alloc_new _ _) (ys := [_]) (by rfl) (by rfl) ?_; intro v' w3 hown3 hg4))
              go_roundw
              case rel => exact ⟨j + 1, _, _, by omega, by go_num, rfl, hown3, app_bd HZB.out (by omega), own_far (own_ext hlo2 ((Ext.refl _).alloc _)) hg4 (fun b hb e => by have h1 := (World.ownsRow.lt hzo2 b hb).1; cases e; have h2 : wo.heap.size ≤ gl := h1; omega), ((hst.after ((Ext.refl _).alloc _)).own hg4 (fun b hb => by have h1 := (World.ownsRow.lt hzo2 b hb).1; omega)).more (by omega), grown_own (grown_new hgt _) hg4 (fun b hb => by have h1 := (World.ownsRow.lt hzo2 b hb).1; omega), by have h1 := hg4.size; simp at h1; omega⟩
              case measure => simp [intOf]; omega
        · obtain rfl : j = k := by omega
          obtain ⟨g3, c3, hv3, hg3a, hg3b⟩ := World.ownsRow.form hzo (by omega)
          subst hv3
          have HF : Hid (DrawnL w0 w g A n c xs (top + 400) 1 9 (.returned (.slice (some ⟨g3, 0, none⟩) j c3)) wr) := ⟨_, j, _, zs, rfl, ownsRow_le hzo hzr, ⟨by omega, by omega⟩, fun y hy => by have := hzb y hy; omega, hsy.more (by omega), hgy⟩
          go_wp2
          go_ret
          exact HF.out
theorem l02Draw_is (q : Nat) (p : Int) (w0 w : World) (g : Nat) (A : Option Addr) (n c : Nat) (xs : List Int) (top : Nat) (h : Srd w0 w g A n c xs top) (hp : p = q) (ht : top ≤ 900000000) (hq : 1 ≤ q ∧ q ≤ 7) :
    Calls Tryz.prog 85 #[.pointer (some ⟨g, 0, none⟩), .int .i64 p] w (DrawnL w0 w g A n c xs (top + 400) 1 9) := by
  subst hp
  exact l02Draw_any q w0 w g A n c xs top h ht hq
end Go.Proofs.YtbihbhdaenhdoaaGreat

namespace Go.Proofs.YtbihbhdaenhdoaaGreat
set_option linter.unusedVariables false
set_option linter.unusedSimpArgs false
open Go.Joins Go.RowKit


/-- The numbers below k, each once. -/
def Ord (ys : List Int) (k : Nat) : Prop := ys.length = k ∧ (∀ i, i < k → 0 ≤ ys[i]?.getD 0 ∧ ys[i]?.getD 0 < k) ∧ ∀ i j, i < j → j < k → ys[i]?.getD 0 ≠ ys[j]?.getD 0
theorem Ord.zero : Ord [] 0 := ⟨rfl, fun i h => absurd h (by omega), fun i j _ h => absurd h (by omega)⟩
theorem Ord.step {ys : List Int} {k a : Nat} (h : Ord ys k) (ha : a ≤ k) : Ord (((ys ++ [(k : Int)]).set k ((ys ++ [(k : Int)])[a]?.getD 0)).set a (k : Int)) (k + 1) := by
  obtain ⟨hl, hb, hd⟩ := h
  have low : ∀ i, i < k → (ys ++ [(k : Int)])[i]?.getD 0 = ys[i]?.getD 0 := fun i hi => by rw [List.getElem?_append_left (by omega)]
  have top : (ys ++ [(k : Int)])[k]?.getD 0 = k := by rw [List.getElem?_append_right (by omega), hl]; simp
  have e : ∀ i, i < k + 1 → ((((ys ++ [(k : Int)]).set k ((ys ++ [(k : Int)])[a]?.getD 0)).set a (k : Int))[i]?.getD 0) = if i = a then (k : Int) else if i = k then ys[a]?.getD 0 else ys[i]?.getD 0 := fun i hi => by
    by_cases h1 : i = a
    · subst h1
      rw [if_pos rfl, List.getElem?_set_self (by simp; omega)]
      rfl
    · rw [if_neg h1, List.getElem?_set_ne (fun h => h1 h.symm)]
      by_cases h2 : i = k
      · subst h2
        rw [if_pos rfl, List.getElem?_set_self (by simp; omega)]
        simp only [Option.getD_some]
        exact low a (by omega)
      · rw [if_neg h2, List.getElem?_set_ne (fun h => h2 h.symm)]
        exact low i (by omega)
  refine ⟨by simp [hl], fun i hi => ?_, fun i j hij hj => ?_⟩
  · rw [e i hi]
    by_cases h1 : i = a
    · rw [if_pos h1]; omega
    · rw [if_neg h1]
      by_cases h2 : i = k
      · rw [if_pos h2]; have := hb a (by omega); omega
      · rw [if_neg h2]; have := hb i (by omega); omega
  · rw [e i (by omega), e j hj]
    have bi : i < k → ys[i]?.getD 0 < k := fun h => (hb i h).2
    have bj : j < k → ys[j]?.getD 0 < k := fun h => (hb j h).2
    have ba : a < k → ys[a]?.getD 0 < k := fun h => (hb a h).2
    by_cases h1 : i = a
    · rw [if_pos h1, if_neg (by omega)]
      by_cases h2 : j = k
      · rw [if_pos h2]; have := ba (by omega); omega
      · rw [if_neg h2]; have := bj (by omega); omega
    · rw [if_neg h1, if_neg (by omega)]
      by_cases h3 : j = a
      · rw [if_pos h3]; have := bi (by omega); omega
      · rw [if_neg h3]
        by_cases h2 : j = k
        · rw [if_pos h2]
          rcases Nat.lt_or_ge i a with h4 | h4
          · exact hd i a h4 (by omega)
          · exact fun h5 => hd a i (by omega) (by omega) h5.symm
        · rw [if_neg h2]
          exact hd i j hij (by omega)
/-- The first j throws lead to the landings. -/
def Thru (ys zs : List Int) (k j : Nat) : Prop := zs.length = j ∧ ∀ i, i < j → (0 ≤ zs[i]?.getD 0 ∧ zs[i]?.getD 0 ≤ 9) ∧ ((i : Int) + zs[i]?.getD 0) % (k : Int) = ys[i]?.getD 0
theorem Thru.zero (ys : List Int) (k : Nat) : Thru ys [] k 0 := ⟨rfl, fun i h => absurd h (by omega)⟩
theorem Thru.step {ys zs : List Int} {k j : Nat} {t : Int} (h : Thru ys zs k j) (ht : 0 ≤ t ∧ t ≤ 9) (e : ((j : Int) + t) % (k : Int) = ys[j]?.getD 0) : Thru ys (zs ++ [t]) k (j + 1) := by
  obtain ⟨hl, hb⟩ := h
  refine ⟨by simp [hl], fun i hi => ?_⟩
  by_cases h1 : i < j
  · rw [List.getElem?_append_left (by omega)]
    exact hb i h1
  · obtain rfl : i = j := by omega
    rw [List.getElem?_append_right (by omega), hl, Nat.sub_self]
    exact ⟨ht, e⟩
theorem mod_land {y j k : Int} (hk : 0 < k) (hy : 0 ≤ y ∧ y < k) : (j + (y - j) % k) % k = y := by
  have h := Int.add_emod j (y - j) k
  have h2 := Int.add_emod j ((y - j) % k) k
  rw [Int.emod_emod] at h2
  rw [h2, ← h, show j + (y - j) = y by omega]
  exact Int.emod_eq_of_lt hy.1 hy.2
theorem mod_more (t k : Int) : (t + k) % k = t % k := by rw [Int.add_emod_right]
theorem Thru.pat {ys zs : List Int} {k : Nat} (h : Thru ys zs k k) (o : Ord ys k) (hk : 1 ≤ k ∧ k ≤ 12) : vpat zs = true := by
  obtain ⟨hl, hb⟩ := h
  unfold vpat
  rw [Bool.and_eq_true]
  refine ⟨thr_iff.2 ⟨fun i hi => by have := (hb i (by omega)).1; omega, by omega, by omega⟩, ncl_yes fun j hj i hi => ?_⟩
  unfold lnd
  rw [hl, (hb i (by omega)).2, (hb j (by omega)).2]
  exact o.2.2 i j hi (by omega)
/-- A drawn pattern, in memory made behind w. -/
def DrawnV (w0 w : World) (g : Nat) (A : Option Addr) (n c : Nat) (xs : List Int) (top : Nat) (e : Ending) (w' : World) : Prop :=
  ∃ (B : Option Addr) (m d : Nat) (ys : List Int), e = .returned (.slice B m d) ∧ w'.ownsRow w.heap.size 2 1 (.slice B m d) m (ys.map (Value.int .i64)) ∧ (1 ≤ m ∧ m ≤ 12) ∧ vpat ys = true ∧ Srd w0 w' g A n c xs top ∧ w.grownBy w' (some g)
set_option maxHeartbeats 4000000 in
set_option maxRecDepth 100000 in
theorem l02DrawV_any (q : Nat) (w0 w : World) (g : Nat) (A : Option Addr) (n c : Nat) (xs : List Int) (top : Nat) (h : Srd w0 w g A n c xs top) (ht : top ≤ 900000000) (hq : 1 ≤ q ∧ q ≤ 7) :
    Calls Tryz.prog 85 #[.pointer (some ⟨g, 0, none⟩), .int .i64 q] w (DrawnV w0 w g A n c xs (top + 400)) := by
  have hlt := h.lt
  go_enter Tryz.func85, Tryz.ntmps85
  go_wp2_with fail
  (with_reducible refine (pick_any q w0 _ g A n c xs top h (by omega)).mono ?_)
  rintro e w1 ⟨x, rfl, hx, hs1, hg1⟩
  obtain ⟨r, hr⟩ : ∃ r : Nat, 1 + x = r := ⟨(1 + x).toNat, by omega⟩
  have hr7 : 1 ≤ r ∧ r ≤ 7 := by omega
  have hz1 := hg1.size
  have hg2 := grown_new hg1 (.cells #[] 2)
  have hs2 := hs1.after (show Ext w1 (w1.alloc (.cells #[] 2)) from (by with_reducible (repeat (first | exact Ext.refl _ | apply Ext.drewN | apply Ext.drew | apply Ext.alloc | (refine Ext.set ?_ (by first | (simp; done) | (simp; omega) | omega) _) | (refine Ext.trans ?_ (by assumption))))))
  go_wp2
  go_loopw [6, 7, 8] (fun v i _ wr => ∃ (k : Nat) (ys : List Int), k ≤ r ∧ i = .int .i64 k ∧ wr.ownsRow w.heap.size 2 1 v k (ys.map (Value.int .i64)) ∧ Hid (Ord ys k) ∧ Srd w0 wr g A n c xs (top + 2 + 2 * k) ∧ w.grownBy wr (some g)) (fun _ i _ _ => r - (intOf i).toNat)
  case atStart => exact ⟨0, [], by omega, rfl, own_new w1 hz1, Ord.zero, hs2, hg2⟩
  case round =>
    obtain ⟨k, ys, hk, rfl, hown, hbd, hsr, hgr⟩ := hrel
    by_cases hkr : k < r
    · have hki : (k : Int) < r := by omega
      have hzr := hgr.size
      have HB := hbd
      clear hbd
      go_wp2_with fail
      (with_reducible refine (pick_any (k + 1) w0 _ g A n c xs _ hsr (by omega)).mono ?_)
      rintro e w2 ⟨x2, rfl, hx2, hs3, hg3⟩
      obtain ⟨a, rfl⟩ : ∃ a : Nat, x2 = a := ⟨x2.toNat, by omega⟩
      have hgr2 := grown_trans hgr hg3
      have hown2 := own_keep hown hg3 hlt
      have hz2 := hgr2.size
      have hak : a = k ∨ (a < k ∧ (a : Int) < k) := by omega
      have hyl : ys.length = k := by have := hown.1; simpa using this
      have HZ : Hid (Ord (((ys ++ [(k : Int)]).set k ((ys ++ [(k : Int)])[a]?.getD 0)).set a (k : Int)) (k + 1)) := HB.out.step (by omega)
      clear hyl
      have hs4 := hs3.after (show Ext w2 (w2.alloc (.cells #[.int .i64 k] 2)) from (by with_reducible (repeat (first | exact Ext.refl _ | apply Ext.drewN | apply Ext.drew | apply Ext.alloc | (refine Ext.set ?_ (by first | (simp; done) | (simp; omega) | omega) _) | (refine Ext.trans ?_ (by assumption))))))
      have hgr3 := grown_new hgr2 (.cells #[.int .i64 k] 2)
      rcases hak with rfl | ⟨hak, haki⟩
      · go_wp2_with (first | (at_builtin; refine appL elInt (by omega) rfl _ _ Tryz.underlying24 rfl rfl (own_ext hown2 ((Ext.refl _).alloc _)) (by simp; omega) (by omega) rfl (heap_alloc_new _ _) (ys := [_]) (by rfl) (by rfl) ?_; intro v' w3 hown3 hg4; obtain ⟨g1, c1, hv1, hg1a, hg1b⟩ := World.ownsRow.form hown3 (by omega); subst hv1; obtain ⟨hcA, hfA⟩ := own_cell hown3 (p := a) (by omega)))
        go_roundw
        case rel => exact ⟨a + 1, _, by omega, by go_num, own_store (own_store hown3 _ _) _ _, HZ, ((hs4.own hg4 (fun b hb => Nat.lt_of_lt_of_le hlt (World.ownsRow.lt hown2 b hb).1)).put (by show g < g1; omega) _).put (by show g < g1; omega) _, grown_put (grown_put (grown_own hgr3 hg4 (fun b hb => (World.ownsRow.lt hown2 b hb).1)) (by show w.heap.size ≤ g1; omega) _) (by show w.heap.size ≤ g1; omega) _⟩
        case measure => simp [intOf]; omega
      · go_wp2_with (first | (at_builtin; refine appL elInt (by omega) rfl _ _ Tryz.underlying24 rfl rfl (own_ext hown2 ((Ext.refl _).alloc _)) (by simp; omega) (by omega) rfl (heap_alloc_new _ _) (ys := [_]) (by rfl) (by rfl) ?_; intro v' w3 hown3 hg4; obtain ⟨g1, c1, hv1, hg1a, hg1b⟩ := World.ownsRow.form hown3 (by omega); subst hv1; obtain ⟨hcA, hfA⟩ := own_cell hown3 (p := a) (by omega); obtain ⟨hcK, hfK⟩ := own_cell hown3 (p := k) (by omega)))
        go_roundw
        case rel => exact ⟨k + 1, _, by omega, by go_num, own_store (own_store hown3 _ _) _ _, HZ, ((hs4.own hg4 (fun b hb => Nat.lt_of_lt_of_le hlt (World.ownsRow.lt hown2 b hb).1)).put (by show g < g1; omega) _).put (by show g < g1; omega) _, grown_put (grown_put (grown_own hgr3 hg4 (fun b hb => (World.ownsRow.lt hown2 b hb).1)) (by show w.heap.size ≤ g1; omega) _) (by show w.heap.size ≤ g1; omega) _⟩
        case measure => simp [intOf]; omega
    · obtain rfl : k = r := by omega
      have hyl : ys.length = k := by have := hown.1; simpa using this
      obtain ⟨gl, cl, hvl, hgl1, hgl2⟩ := World.ownsRow.form hown (by omega)
      subst hvl
      have HB := hbd
      clear hbd
      obtain ⟨wo, rfl⟩ : ∃ wo : World, wo = wr := ⟨_, rfl⟩
      have hs2' := hsr.after (show Ext wo (wo.alloc (.cells #[] 2)) from (by with_reducible (repeat (first | exact Ext.refl _ | apply Ext.drewN | apply Ext.drew | apply Ext.alloc | (refine Ext.set ?_ (by first | (simp; done) | (simp; omega) | omega) _) | (refine Ext.trans ?_ (by assumption))))))
      have hgr2' := grown_new hgr (.cells #[] 2)
      have hown1 := own_ext hown (show Ext wo (wo.alloc (.cells #[] 2)) from (by with_reducible (repeat (first | exact Ext.refl _ | apply Ext.drewN | apply Ext.drew | apply Ext.alloc | (refine Ext.set ?_ (by first | (simp; done) | (simp; omega) | omega) _) | (refine Ext.trans ?_ (by assumption))))))
      have hzr := hgr.size
      go_wp2
      go_loopw [9, 10, 11] (fun v i _ wy => ∃ (j : Nat) (zs : List Int) (vv : Value), j ≤ k ∧ i = .int .i64 j ∧ vv = v ∧ wy.ownsRow wo.heap.size 2 1 vv j (zs.map (Value.int .i64)) ∧ Hid (Thru ys zs k j) ∧ wy.ownsRow w.heap.size 2 1 (.slice (some ⟨gl, 0, none⟩) k cl) k (ys.map (Value.int .i64)) ∧ Srd w0 wy g A n c xs (top + 20 + 30 * j) ∧ w.grownBy wy (some g) ∧ wo.heap.size ≤ wy.heap.size) (fun _ i _ _ => k - (intOf i).toNat)
      case atStart => exact ⟨0, [], _, by omega, rfl, rfl, own_new wo (Nat.le_refl _), Thru.zero _ _, hown1, hs2'.more (by omega), hgr2', by simp⟩
      case round =>
        obtain ⟨j, zs, vv, hj, rfl, rfl, hzo, hzb, hlo, hsy, hgy, hzy⟩ := hrel
        by_cases hjk : j < k
        · have hji : (j : Int) < k := by omega
          have HZB := hzb
          clear hzb
          obtain ⟨hcj, _⟩ := own_cell hlo (p := j) hjk
          have hyb := HB.out.2.1 j hjk
          have HLD : Hid (((j : Int) + (ys[j]?.getD 0 - j) % (k : Int)) % (k : Int) = ys[j]?.getD 0) := mod_land (by omega) hyb
          have e1 := Int.emod_nonneg (ys[j]?.getD 0 - j) (show (k : Int) ≠ 0 by omega)
          have e2 := Int.emod_lt_of_pos (ys[j]?.getD 0 - j) (show 0 < (k : Int) by omega)
          obtain ⟨t0, ht0⟩ : ∃ t0 : Nat, (ys[j]?.getD 0 - j) % (k : Int) = t0 := ⟨_, (Int.toNat_of_nonneg e1).symm⟩
          rw [ht0] at e1 e2 HLD
          have HT0 := Lib.hid ht0
          clear ht0
          have HYJ : Hid (∃ yj, ys[j]?.getD 0 = yj) := ⟨_, rfl⟩
          obtain ⟨yj, hyj⟩ := HYJ.out
          rw [hyj] at hyb HLD hcj HT0
          have HYE := Lib.hid hyj
          clear hyj HYJ
          go_wp2_with (first | (go_at_call 113; (with_reducible refine (l02Mod_is _ _ _ _ (by omega) (by omega) HT0.out).mono ?_); rintro e w' ⟨rfl, rfl⟩))
          go_loopw [11] (fun t wt => ∃ tt : Nat, tt ≤ 9 ∧ t = .int .i64 tt ∧ Hid (((j : Int) + tt) % (k : Int) = ys[j]?.getD 0) ∧ wt.ownsRow wo.heap.size 2 1 vv j (zs.map (Value.int .i64)) ∧ wt.ownsRow w.heap.size 2 1 (.slice (some ⟨gl, 0, none⟩) k cl) k (ys.map (Value.int .i64)) ∧ Srd w0 wt g A n c xs (top + 20 + 30 * j + 2 * tt) ∧ w.grownBy wt (some g) ∧ wo.heap.size ≤ wt.heap.size) (fun t _ => 20 - (intOf t).toNat)
          case atStart => exact ⟨t0, by omega, rfl, by rw [HYE.out]; exact HLD, hzo, hlo, hsy.more (by omega), hgy, hzy⟩
          case round =>
            obtain ⟨tt, htt, rfl, hml, hzo2, hlo2, hst, hgt, hzt⟩ := hrel
            by_cases h9 : (tt : Int) + k ≤ 9
            · go_wp2_with fail
              (with_reducible refine (one_any 2 w0 _ g A n c xs _ hst (by omega)).mono ?_)
              rintro e w4 ⟨b, rfl, hs5, hg5⟩
              have hzo3 := own_keep hzo2 hg5 (by omega)
              have hlo3 := own_keep hlo2 hg5 hlt
              have hgy3 := grown_trans hgt hg5
              have hz4 := hg5.size
              cases b
              · go_wp2_with (first | (at_builtin; refine appL elInt (by omega) rfl _ _ Tryz.underlying24 rfl rfl (own_ext hzo3 ((Ext.refl _).alloc _)) (by simp; omega) (by omega) rfl (heap_alloc_new _ _) (ys := [_]) (by rfl) (by rfl) ?_; intro v' w3 hown3 hg4))
                go_roundw
                case rel => exact ⟨j + 1, _, _, by omega, by go_num, rfl, hown3, HZB.out.step (by omega) hml.out, own_far (own_ext hlo3 ((Ext.refl _).alloc _)) hg4 (fun b hb e => by have h1 := (World.ownsRow.lt hzo3 b hb).1; cases e; have h2 : wo.heap.size ≤ gl := h1; omega), ((hs5.after ((Ext.refl _).alloc _)).own hg4 (fun b hb => by have h1 := (World.ownsRow.lt hzo3 b hb).1; omega)).more (by omega), grown_own (grown_new hgy3 _) hg4 (fun b hb => by have h1 := (World.ownsRow.lt hzo3 b hb).1; omega), by have h1 := hg4.size; simp at h1; omega⟩
                case measure => simp [intOf]; omega
              · go_wp2
                go_roundw
                case rel => exact ⟨tt + k, by omega, by go_num, by show (_ : Int) = _; rw [← hml.out, show (j : Int) + ((tt + k : Nat) : Int) = (j + tt) + k by omega, mod_more], hzo3, hlo3, hs5.more (by omega), hgy3, by omega⟩
                case measure => simp [intOf]; omega
            · go_wp2_with (first | (at_builtin; refine appL elInt (by omega) rfl _ _ Tryz.underlying24 rfl rfl (own_ext hzo2 ((Ext.refl _).alloc _)) (by simp; omega) (by omega) rfl (heap_alloc_new _ _) (ys := [_]) (by rfl) (by rfl) ?_; intro v' w3 hown3 hg4))
              go_roundw
              case rel => exact ⟨j + 1, _, _, by omega, by go_num, rfl, hown3, HZB.out.step (by omega) hml.out, own_far (own_ext hlo2 ((Ext.refl _).alloc _)) hg4 (fun b hb e => by have h1 := (World.ownsRow.lt hzo2 b hb).1; cases e; have h2 : wo.heap.size ≤ gl := h1; omega), ((hst.after ((Ext.refl _).alloc _)).own hg4 (fun b hb => by have h1 := (World.ownsRow.lt hzo2 b hb).1; omega)).more (by omega), grown_own (grown_new hgt _) hg4 (fun b hb => by have h1 := (World.ownsRow.lt hzo2 b hb).1; omega), by have h1 := hg4.size; simp at h1; omega⟩
              case measure => simp [intOf]; omega
        · obtain rfl : j = k := by omega
          obtain ⟨g3, c3, hv3, hg3a, hg3b⟩ := World.ownsRow.form hzo (by omega)
          subst hv3
          have HF : Hid (DrawnV w0 w g A n c xs (top + 400) (.returned (.slice (some ⟨g3, 0, none⟩) j c3)) wr) := ⟨_, j, _, zs, rfl, ownsRow_le hzo hzr, ⟨by omega, by omega⟩, hzb.out.pat HB.out (by omega), hsy.more (by omega), hgy⟩
          go_wp2
          go_ret
          exact HF.out
end Go.Proofs.YtbihbhdaenhdoaaGreat
