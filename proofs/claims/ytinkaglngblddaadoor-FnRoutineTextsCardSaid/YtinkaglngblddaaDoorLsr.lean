/- Draws from bytes: words for slices of bytes and for the source of choices, and contracts of l00From, next, pick, one, among. No condition but the stated bounds. -/
import Derived.Test.YtinkaglngblddaaDoorApp
import Derived.Deep.DeepCutAuto
import Derived.Laws.BitsAllLaws
namespace Go.Proofs.YtinkaglngblddaaDoor
set_option linter.unusedVariables false
set_option linter.unusedSimpArgs false
open Go.ChangeShapes Go.WideShapes Go.ChangeAt Go.RowKit Go.Joins

/-- The slice (A, n) holds the bytes xs. -/
structure Byts (w : World) (A : Option Addr) (n : Nat) (xs : List Int) : Prop where
  len : xs.length = n
  small : n ≤ 9223372036854775807
  bds : ∀ i, i < n → 0 ≤ xs[i]?.getD 0 ∧ xs[i]?.getD 0 ≤ 255
  at_ : 0 < n → ∃ b off, A = some ⟨b, off, none⟩ ∧ b < w.heap.size ∧ ∀ i, i < n → w.cell? ⟨b, off + i, none⟩ = some (.int .u8 (xs[i]?.getD 0))
theorem Byts.ext {w w' : World} {A : Option Addr} {n : Nat} {xs : List Int} (h : Byts w A n xs) (k : Ext w w') : Byts w' A n xs :=
  ⟨h.len, h.small, h.bds, fun hn => by
    obtain ⟨b, off, e, hb, hc⟩ := h.at_ hn
    exact ⟨b, off, e, Nat.lt_of_lt_of_le hb k.size, fun i hi => k.cell hb (hc i hi)⟩⟩
theorem bounds_u8 {n : Int} (h : (Lit.int .u8 n).wf = true) : 0 ≤ n ∧ n ≤ 255 := by
  simp [Lit.wf, IntKind.min, IntKind.max, IntKind.bits, IntKind.signed] at h
  omega
/-- An argument's reading. -/
theorem argByts {H : Type} {enc : TypeId × Value → H} {P : Program} {W : World} {t e : TypeId} {A : Option Addr} {n c : Nat} {d : DataW H} {p : List MemPlace} (ht : P.underlying t = some (.slice e)) (he : P.underlying e = some (.int .u8)) (hc : P.cellsOf e = 1)
    (h : DataW.Trod enc P W 0 (fun _ => true) true t (.slice A n c) d p) : ∃ xs, Byts W A n xs := by
  obtain ⟨fuel, hf⟩ := h
  rcases open_ints ht he hc hf with ⟨hcs, hx⟩ | ⟨a, len, cap, zs, hcs, _, hl, hm, hz, hx, hcell, hwz⟩
  · obtain ⟨rfl, rfl, rfl⟩ : A = none ∧ n = 0 ∧ c = 0 := by simpa [Value.cells] using hcs
    exact ⟨[], rfl, by omega, fun i h => absurd h (by omega), fun h => absurd h (by omega)⟩
  · obtain ⟨rfl, rfl, rfl⟩ : A = some a ∧ n = len ∧ c = cap := by simpa [Value.cells] using hcs
    simp only [if_true] at hz
    unfold maxLen at hm
    have hg : ∀ i, i < n → (zs.take n)[i]?.getD 0 = zs[i]?.getD 0 := fun i hi => by simp [hi]
    refine ⟨zs.take n, by simp; omega, by omega, fun i hi => ?_, fun hn => ?_⟩
    · rw [hg i hi, List.getElem?_eq_getElem (by omega)]
      exact bounds_u8 (hwz _ (List.getElem_mem _))
    · obtain ⟨b, off, spot⟩ := a
      have hspot : spot = none := by simpa [Addr.add] using World.cell?_spot (hcell 0 (by omega))
      subst hspot
      have hcc : ∀ j, j < zs.length → W.cell? ⟨b, off + j, none⟩ = some (.int .u8 (zs[j]?.getD 0)) := fun j hj => by
        rw [← Go.WideShapes.add_plain, hcell j hj]
        simp
      refine ⟨b, off, rfl, cell_lt (hcc 0 (by omega)), fun i hi => ?_⟩
      rw [hcc i (by omega), hg i hi]
/-- The source of choices: the block g, made behind w0, tells the bytes (A, n, c), a place that is at most 'top', and a seed. -/
structure Srd (w0 w : World) (g : Nat) (A : Option Addr) (n c : Nat) (xs : List Int) (top : Nat) : Prop where
  byts : Byts w0 A n xs
  born : w0.heap.size ≤ g
  ext : Ext w0 w
  at_ : ∃ (k : Nat) (z : Int), k ≤ top ∧ 0 ≤ z ∧ z ≤ 18446744073709551615 ∧ w.heap[g]? = some (.cells #[.slice A n c, .int .i64 k, .int .u64 z] 93 (0, 0))
section
variable {w0 w w' : World} {g n c top : Nat} {A : Option Addr} {xs : List Int}
theorem Srd.lt (h : Srd w0 w g A n c xs top) : g < w.heap.size := by
  obtain ⟨k, z, _, _, _, hb⟩ := h.at_
  exact (Array.getElem?_eq_some_iff.1 hb).1
theorem Srd.after (h : Srd w0 w g A n c xs top) (k : Ext w w') : Srd w0 w' g A n c xs top := by
  obtain ⟨q, z, h1, h2, h3, hb⟩ := h.at_
  exact ⟨h.byts, h.born, h.ext.trans k, q, z, h1, h2, h3, by rw [Below.block k g h.lt]; exact hb⟩
/-- Another block is written. -/
theorem Srd.apart (h : Srd w0 w g A n c xs top) {row : Option Nat} (k : w.grownBy w' row) (hr : row ≠ some g) (hx : Ext w0 w') : Srd w0 w' g A n c xs top := by
  obtain ⟨q, z, h1, h2, h3, hb⟩ := h.at_
  exact ⟨h.byts, h.born, hx, q, z, h1, h2, h3, by rw [k.block g h.lt (fun e => hr e.symm)]; exact hb⟩
theorem Srd.more (h : Srd w0 w g A n c xs top) {top' : Nat} (k : top ≤ top') : Srd w0 w g A n c xs top' := by
  obtain ⟨q, z, h1, h2, h3, hb⟩ := h.at_
  exact ⟨h.byts, h.born, h.ext, q, z, by omega, h2, h3, hb⟩
end
/-- What a draw does: a number of which p tells, and the source stands further on. -/
def Drawn (w0 w : World) (g : Nat) (A : Option Addr) (n c : Nat) (xs : List Int) (top : Nat) (p : Int → Prop) (e : Ending) (w' : World) : Prop :=
  ∃ x : Int, e = .returned (.int .i64 x) ∧ p x ∧ Srd w0 w' g A n c xs top ∧ w.grownBy w' (some g)
theorem grown_trans {a w w' : World} {row : Option Nat} (h : a.grownBy w row) (k : w.grownBy w' row) : a.grownBy w' row :=
  ⟨k.os.trans h.os, k.tape.trans h.tape, k.output.trans h.output, Nat.le_trans h.size k.size, fun i hi hne => (k.block i (Nat.lt_of_lt_of_le hi h.size) hne).trans (h.block i hi hne)⟩
theorem grown_cell {w w' : World} {g b : Nat} (k : w.grownBy w' (some g)) (hb : b < w.heap.size) (hne : b ≠ g) (o : Nat) : w'.cell? ⟨b, o, none⟩ = w.cell? ⟨b, o, none⟩ :=
  World.cell?_of_block (k.block b hb (by rintro e; cases e; exact hne rfl))
theorem grown_drewN {a w : World} {row : Option Nat} (h : a.grownBy w row) (m : Nat) : a.grownBy (w.drewN m) row := ⟨h.os, h.tape, h.output, h.size, h.block⟩
theorem u64_bd (e : Int) : 0 ≤ IntKind.u64.wrap e ∧ IntKind.u64.wrap e ≤ 18446744073709551615 := by
  simp [IntKind.wrap, IntKind.bits, IntKind.signed]
  omega
theorem low8 (e : Int) : 0 ≤ RowKit.wrap64 (bits BinOp.and IntKind.u64 (IntKind.u64.wrap e / 1099511627776) 255) ∧ RowKit.wrap64 (bits BinOp.and IntKind.u64 (IntKind.u64.wrap e / 1099511627776) 255) ≤ 255 := by
  obtain ⟨h0, h1⟩ := u64_bd e
  have e0 : (IntKind.u64.wrap e / 1099511627776).toNat &&& (255 : Int).toNat ≤ 255 := Nat.and_le_right
  rw [u64_and _ 255 (by omega) (by omega) (by omega) (by omega), IntWalk.wrap64_in _ (by omega)]
  omega
theorem drewN_heap (w : World) (m : Nat) : (w.drewN m).heap = w.heap := rfl
theorem srd_step {w0 w : World} {g n c top : Nat} {A : Option Addr} {xs : List Int} (h : Srd w0 w g A n c xs top) {k : Nat} (hk : k ≤ top) {z : Int} (hb : w.heap[g]? = some (.cells #[.slice A n c, .int .i64 k, .int .u64 z] 93 (0, 0))) (q1 q2 : Nat) (y : Int) (hy : 0 ≤ y ∧ y ≤ 18446744073709551615) :
    Srd w0 ((((w.drewN q1).setCell ⟨g, 1, none⟩ (.int .i64 ((k : Int) + 1))).setCell ⟨g, 2, none⟩ (.int .u64 y)).drewN q2) g A n c xs (top + 1) ∧ w.grownBy ((((w.drewN q1).setCell ⟨g, 1, none⟩ (.int .i64 ((k : Int) + 1))).setCell ⟨g, 2, none⟩ (.int .u64 y)).drewN q2) (some g) := by
  obtain ⟨u0, u1⟩ := hy
  have hborn := h.born
  have hx0 := h.ext
  have b1 := block_setCell (w := w.drewN q1) (i := 1) hb (.int .i64 ((k : Int) + 1))
  have b2 := block_setCell (i := 2) b1 (.int .u64 y)
  have e1 : ((#[Value.slice A n c, .int .i64 k, .int .u64 z].setIfInBounds 1 (.int .i64 ((k : Int) + 1))).setIfInBounds 2 (.int .u64 y)) = #[.slice A n c, .int .i64 ((k : Int) + 1), .int .u64 y] := by simp [Array.setIfInBounds]
  rw [e1] at b2
  refine ⟨⟨h.byts, h.born, (by with_reducible (repeat (first | exact Ext.refl _ | apply Ext.drewN | apply Ext.drew | apply Ext.alloc | (refine Ext.set ?_ (by first | (simp; done) | (simp; omega) | omega) _) | (refine Ext.trans ?_ (by assumption))))), k + 1, y, by omega, u0, u1, ?_⟩, ?_⟩
  · rw [drewN_heap, show ((k + 1 : Nat) : Int) = (k : Int) + 1 by omega]
    exact b2
  · have g1 := only_setCell (grown_drewN (World.grownBy.refl w (some g)) q1) (p := ⟨g, 1, none⟩) rfl (.int .i64 ((k : Int) + 1))
    have g2 := only_setCell g1 (p := ⟨g, 2, none⟩) rfl (.int .u64 y)
    exact grown_drewN g2 q2
theorem l00From_any (A : Option Addr) (n c : Nat) (xs : List Int) (w : World) (hB : Byts w A n xs) :
    Calls Tryd.prog 39 #[.slice A n c] w fun e w' => ∃ g, e = .returned (.pointer (some ⟨g, 0, none⟩)) ∧ Srd w w' g A n c xs 0 ∧ g = w.heap.size := by
  go_enter Tryd.func39, Tryd.ntmps39
  go_wp2
  go_ret
  exact ⟨_, rfl, ⟨hB, Nat.le_refl _, (by with_reducible (repeat (first | exact Ext.refl _ | apply Ext.drewN | apply Ext.drew | apply Ext.alloc | (refine Ext.set ?_ (by first | (simp; done) | (simp; omega) | omega) _) | (refine Ext.trans ?_ (by assumption))))), 0, 0, by omega, by omega, by omega, heap_alloc_new _ _⟩, rfl⟩
set_option maxHeartbeats 1000000 in
set_option maxRecDepth 100000 in
theorem next_any (w0 w : World) (g : Nat) (A : Option Addr) (n c : Nat) (xs : List Int) (top : Nat) (h : Srd w0 w g A n c xs top) (ht : top ≤ 1000000000) :
    Calls Tryd.prog 73 #[.pointer (some ⟨g, 0, none⟩)] w (Drawn w0 w g A n c xs (top + 1) (fun x => 0 ≤ x ∧ x ≤ 255)) := by
  obtain ⟨k, z, hk, hz0, hz1, hb⟩ := h.at_
  have hby := h.byts.ext h.ext
  have hsm := hby.small
  have c0 : w.cell? ⟨g, 0, none⟩ = some (.slice A n c) := (cell_of_block hb _).trans rfl
  have c1 : w.cell? ⟨g, 1, none⟩ = some (.int .i64 k) := (cell_of_block hb _).trans rfl
  have c2 : w.cell? ⟨g, 2, none⟩ = some (.int .u64 z) := (cell_of_block hb _).trans rfl
  have f0 := fun o => unfrozen_of_block hb o
  have f1 := f0 1
  have f2 := f0 2
  clear f0
  have hborn := h.born
  have hx0 := h.ext
  by_cases hlt : k < n
  · obtain ⟨b, off, rfl, hbz, hcell⟩ := hby.at_ (by omega)
    have c3 := hcell k hlt
    have hx := hby.bds k hlt
    have hki : (k : Int) < n := by omega
    have hki2 : (k : Int) + 1 ≤ n := by omega
    generalize xs[k]?.getD 0 = x at *
    clear hcell
    go_enter Tryd.func73, Tryd.ntmps73
    go_wp2
    go_quiet (fail)
    go_wp2
    go_quiet (fail)
    go_wp2
    go_quiet (fail)
    go_wp2
    go_ret
    exact ⟨x, rfl, hx, (srd_step h hk hb _ _ _ (u64_bd _)).1, (srd_step h hk hb _ _ _ (u64_bd _)).2⟩
  · have hki : ¬ (k : Int) < n := by omega
    have hki2 : ¬ (k : Int) + 1 ≤ n := by omega
    go_enter Tryd.func73, Tryd.ntmps73
    go_wp2
    go_quiet (fail)
    go_wp2
    go_quiet (fail)
    go_wp2
    go_ret
    exact ⟨_, rfl, low8 _, (srd_step h hk hb _ _ _ (u64_bd _)).1, (srd_step h hk hb _ _ _ (u64_bd _)).2⟩
set_option maxHeartbeats 1000000 in
theorem pick_any (m : Int) (w0 w : World) (g : Nat) (A : Option Addr) (n c : Nat) (xs : List Int) (top : Nat) (h : Srd w0 w g A n c xs top) (ht : top ≤ 999999999) :
    Calls Tryd.prog 44 #[.pointer (some ⟨g, 0, none⟩), .int .i64 m] w (Drawn w0 w g A n c xs (top + 2) (fun x => 0 ≤ x ∧ x ≤ 65535 ∧ (x < m ∨ x = 0 ∧ m ≤ 1))) := by
  by_cases h1 : m ≤ 1
  · go_enter Tryd.func44, Tryd.ntmps44
    go_wp2
    go_ret
    exact ⟨0, rfl, by omega, h.more (by omega), World.grownBy.refl _ _⟩
  · by_cases h2 : 200 < m
    · go_enter Tryd.func44, Tryd.ntmps44
      go_wp2_with fail
      (with_reducible refine (next_any w0 _ g A n c xs top h (by omega)).mono ?_)
      rintro e w1 ⟨x, rfl, hx, hs1, hg1⟩
      go_wp2_with fail
      (with_reducible refine (next_any w0 _ g A n c xs (top + 1) hs1 (by omega)).mono ?_)
      rintro e w2 ⟨y, rfl, hy, hs2, hg2⟩
      have hq : 0 ≤ x * 256 + y := by omega
      obtain ⟨v, hv⟩ : ∃ v, x * 256 + y = v := ⟨_, rfl⟩
      rw [hv] at hq
      have hv2 : v ≤ 65535 := by omega
      have e1 := Int.emod_nonneg v (show m ≠ 0 by omega)
      have e2 := Int.emod_lt_of_pos v (show 0 < m by omega)
      have e3 : v % m ≤ v := by have h1 := Int.emod_add_mul_ediv v m; have h2 : 0 ≤ v / m := Int.ediv_nonneg hq (by omega); have h3 : 0 ≤ m * (v / m) := Int.mul_nonneg (by omega) h2; omega
      go_wp2
      go_ret
      exact ⟨v % m, by rw [← hv]; rfl, by omega, hs2, grown_trans hg1 hg2⟩
    · go_enter Tryd.func44, Tryd.ntmps44
      go_wp2_with fail
      (with_reducible refine (next_any w0 _ g A n c xs top h (by omega)).mono ?_)
      rintro e w1 ⟨v, rfl, hx, hs1, hg1⟩
      have e1 := Int.emod_nonneg v (show m ≠ 0 by omega)
      have e2 := Int.emod_lt_of_pos v (show 0 < m by omega)
      go_wp2
      go_ret
      exact ⟨v % m, rfl, by omega, hs1.more (by omega), hg1⟩
theorem one_any (m : Int) (w0 w : World) (g : Nat) (A : Option Addr) (n c : Nat) (xs : List Int) (top : Nat) (h : Srd w0 w g A n c xs top) (ht : top ≤ 999999999) :
    Calls Tryd.prog 41 #[.pointer (some ⟨g, 0, none⟩), .int .i64 m] w fun e w' => ∃ b : Bool, e = .returned (.bool b) ∧ Srd w0 w' g A n c xs (top + 2) ∧ w.grownBy w' (some g) := by
  go_enter Tryd.func41, Tryd.ntmps41
  go_wp2_with fail
  (with_reducible refine (pick_any m w0 _ g A n c xs top h ht).mono ?_)
  rintro e w1 ⟨x, rfl, hx, hs1, hg1⟩
  go_wp2
  go_ret
  exact ⟨_, rfl, hs1, hg1⟩
set_option maxHeartbeats 1000000 in
theorem among_any (B : Option Addr) (m d : Nat) (ys : List Int) (w0 w : World) (g : Nat) (A : Option Addr) (n c : Nat) (xs : List Int) (top : Nat) (h : Srd w0 w g A n c xs top) (ht : top ≤ 999999999) (hI : Ints w B m ys) (hm : 1 ≤ m) (hne : ∀ a, B = some a → a.block ≠ g) :
    Calls Tryd.prog 68 #[.pointer (some ⟨g, 0, none⟩), .slice B m d] w (Drawn w0 w g A n c xs (top + 2) (fun x => x ∈ ys)) := by
  have hsm := hI.small
  go_enter Tryd.func68, Tryd.ntmps68
  go_wp2_with fail
  (with_reducible refine (pick_any m w0 _ g A n c xs top h ht).mono ?_)
  rintro e w1 ⟨x, rfl, hx, hs1, hg1⟩
  obtain ⟨k, rfl⟩ : ∃ k : Nat, x = k := ⟨x.toNat, by omega⟩
  have hkm : k < m := by omega
  obtain ⟨b, off, rfl, hb, hcell⟩ := hI.at_ (by omega)
  have c1 := (grown_cell hg1 hb (hne _ rfl) (off + k)).trans (hcell k hkm)
  have hki : (k : Int) < m := by omega
  have HM : Hid (ys[k]?.getD 0 ∈ ys) := by
    show _ ∈ _
    rw [List.getElem?_eq_getElem (by rw [hI.len]; exact hkm)]
    exact List.getElem_mem _
  clear hcell
  generalize ys[k]?.getD 0 = y at *
  go_wp2
  go_ret
  exact ⟨y, rfl, HM.out, hs1, hg1⟩
end Go.Proofs.YtinkaglngblddaaDoor
