/- Routines: contracts of the laws' sizes, copies and comparisons. No condition but the stated bounds. -/
import Derived.Test.YtinkaglngblddaaDoorRtn
import Derived.Test.YtinkaglngblddaaDoorRowG
namespace Go.Proofs.YtinkaglngblddaaDoor
set_option linter.unusedVariables false
set_option linter.unusedSimpArgs false
open Go.RowKit Go.Joins

set_option maxHeartbeats 1000000 in
theorem szPartS_any (A : Option Addr) (n c : Nat) (ps : List (List Int × Int)) (r : Int) (w : World) (hP : Parts w A n ps) (hr : 0 ≤ r ∧ r ≤ 1048576) :
    Calls Tryd.prog 21 #[.slice A n c, .int .i64 r] w (Left (n ≤ 1048576 ∧ ∀ i, i < n → (pt ps i).length ≤ 1048576) w) := by
  have hsm := hP.small
  by_cases h : r < n
  · go_enter Tryd.func21, Tryd.ntmps21
    go_wp2
    go_ret
    exact ⟨-1, rfl, .inl (by omega), (by with_reducible (repeat (first | exact Ext.refl _ | apply Ext.drewN | apply Ext.drew | apply Ext.alloc | (refine Ext.set ?_ (by first | (simp; done) | (simp; omega) | omega) _) | (refine Ext.trans ?_ (by assumption)))))⟩
  · obtain ⟨q, hq⟩ : ∃ q, r - n = q := ⟨_, rfl⟩
    have hq0 : 0 ≤ q ∧ q ≤ 1048576 := by omega
    have hnn : n ≤ 1048576 := by omega
    go_enter Tryd.func21, Tryd.ntmps21
    go_wp2
    go_loopw [1, 5] (fun s i wr => ∃ (k : Nat) (z : Int), k ≤ n ∧ i = .int .i64 k ∧ s = .int .i64 z ∧ (0 ≤ z ∧ z ≤ 1048576) ∧ (∀ j, j < k → (pt ps j).length ≤ 1048576) ∧ Ext w wr) (fun _ i _ => n - (intOf i).toNat)
    case atStart => exact ⟨0, q, by omega, rfl, rfl, hq0, fun j hj => absurd hj (by omega), Ext.refl _⟩
    case round =>
      obtain ⟨k, z, hk, rfl, rfl, hz, hall, hx⟩ := hrel
      have HA := Lib.hid hall
      clear hall
      by_cases hlt : k < n
      · obtain ⟨b, off, hA, hb, hc⟩ := (hP.ext hx).at_ (by omega)
        subst hA
        obtain ⟨B, m, d, c0, c1, hI⟩ := hc k hlt
        have hlen := hI.len
        have HLEN := Lib.hid hlen
        have hki : (k : Int) < n := by omega
        clear hc hlen
        generalize tm ps k = t at *
        go_wp2_with fail
        (with_reducible refine (szPart_any B m d _ t z _ (hI.ext (by with_reducible (repeat (first | exact Ext.refl _ | apply Ext.drewN | apply Ext.drew | apply Ext.alloc | (refine Ext.set ?_ (by first | (simp; done) | (simp; omega) | omega) _) | (refine Ext.trans ?_ (by assumption)))))) hz).mono ?_)
        rintro e w2 ⟨y, rfl, hy, hx2⟩
        have hx3 : Ext w w2 := hx.trans hx2
        rcases hy with hy | ⟨hy0, hy1, hm⟩
        · go_wp2
          go_ret
          exact ⟨-1, rfl, .inl (by omega), hx3⟩
        · have hny : ¬ y < 0 := by omega
          have HN : Hid (∀ j, j < k + 1 → (pt ps j).length ≤ 1048576) := fun j hj => by
            by_cases e : j = k
            · rw [e, HLEN.out]; exact hm
            · exact HA.out j (by omega)
          go_wp2
          go_roundw
          case rel => exact ⟨k + 1, y, by omega, by go_num, rfl, ⟨hy0, hy1⟩, HN.out, hx3⟩
          case measure => simp [intOf]; omega
      · obtain rfl : k = n := by omega
        go_wp2
        go_ret
        exact ⟨z, rfl, .inr ⟨hz.1, hz.2, hnn, HA.out⟩, hx⟩
set_option maxHeartbeats 1000000 in
theorem szRoutine_any (A : Option Addr) (n c : Nat) (ps : List (List Int × Int)) (h r : Int) (w : World) (hP : Parts w A n ps) (hr : 0 ≤ r ∧ r ≤ 1048576) :
    Calls Tryd.prog 6 #[.agg #[.int .i64 h, .slice A n c], .int .i64 r] w (Left (n ≤ 1048576 ∧ ∀ i, i < n → (pt ps i).length ≤ 1048576) w) := by
  go_enter Tryd.func6, Tryd.ntmps6
  go_wp2_with fail
  (with_reducible refine (szPartS_any A n c ps r _ (hP.ext (by with_reducible (repeat (first | exact Ext.refl _ | apply Ext.drewN | apply Ext.drew | apply Ext.alloc | (refine Ext.set ?_ (by first | (simp; done) | (simp; omega) | omega) _) | (refine Ext.trans ?_ (by assumption)))))) hr).mono ?_)
  rintro e w2 ⟨y, rfl, hy, hx2⟩
  have hx3 : Ext w w2 := Ext.trans (by with_reducible (repeat (first | exact Ext.refl _ | apply Ext.drewN | apply Ext.drew | apply Ext.alloc | (refine Ext.set ?_ (by first | (simp; done) | (simp; omega) | omega) _) | (refine Ext.trans ?_ (by assumption))))) hx2
  rcases hy with hy | ⟨hy0, hy1, hm⟩
  · go_wp2
    go_ret
    exact ⟨-1, rfl, .inl (by omega), hx3⟩
  · have hny : ¬ y < 0 := by omega
    go_wp2
    go_ret
    exact ⟨y, rfl, .inr ⟨hy0, hy1, hm⟩, hx3⟩
/-- A slice of numbers is kept by a store into another block. -/
theorem Ints.far {w : World} {A : Option Addr} {n : Nat} {xs : List Int} (h : Ints w A n xs) {p : Addr} (hp : ∀ a, A = some a → a.block ≠ p.block) (u : Value) : Ints (w.setCell p u) A n xs :=
  ⟨h.len, h.small, h.bds, fun hn => by
    obtain ⟨b, off, e, hb, hc⟩ := h.at_ hn
    refine ⟨b, off, e, by simpa [World.setCell] using hb, fun i hi => ?_⟩
    rw [World.cell?_setCell_other _ _ _ _ (fun e' => hp _ e (by cases e'; rfl))]
    exact hc i hi⟩
/-- Parts in blocks from lo on. -/
structure PartsL (w : World) (lo : Nat) (A : Option Addr) (n : Nat) (ps : List (List Int × Int)) : Prop where
  len : ps.length = n
  small : n ≤ 9223372036854775807
  bds : ∀ i, i < n → -9223372036854775808 ≤ tm ps i ∧ tm ps i ≤ 9223372036854775807
  at_ : 0 < n → ∃ b off, A = some ⟨b, off, none⟩ ∧ lo ≤ b ∧ b < w.heap.size ∧ ∀ i, i < n → ∃ (B : Option Addr) (m c : Nat), w.cell? ⟨b, off + i * 2, none⟩ = some (.slice B m c) ∧ w.cell? ⟨b, off + i * 2 + 1, none⟩ = some (.int .i64 (tm ps i)) ∧ (∀ a, B = some a → lo ≤ a.block) ∧ Ints w B m (pt ps i)
theorem PartsL.parts {w : World} {lo : Nat} {A : Option Addr} {n : Nat} {ps : List (List Int × Int)} (h : PartsL w lo A n ps) : Parts w A n ps :=
  ⟨h.len, h.small, h.bds, fun hn => by
    obtain ⟨b, off, e, _, hb, hc⟩ := h.at_ hn
    refine ⟨b, off, e, hb, fun i hi => ?_⟩
    obtain ⟨B, m, c, h1, h2, _, h3⟩ := hc i hi
    exact ⟨B, m, c, h1, h2, h3⟩⟩
theorem PartsL.far {w : World} {lo : Nat} {A : Option Addr} {n : Nat} {ps : List (List Int × Int)} (h : PartsL w lo A n ps) {p : Addr} (hp : p.block < lo) (u : Value) : PartsL (w.setCell p u) lo A n ps :=
  ⟨h.len, h.small, h.bds, fun hn => by
    obtain ⟨b, off, e, hlo, hb, hc⟩ := h.at_ hn
    refine ⟨b, off, e, hlo, by simpa [World.setCell] using hb, fun i hi => ?_⟩
    obtain ⟨B, m, c, h1, h2, h4, h3⟩ := hc i hi
    refine ⟨B, m, c, ?_, ?_, h4, h3.far (fun a ha => by have := h4 a ha; omega) u⟩
    · rw [World.cell?_setCell_other _ _ _ _ (fun e' => by subst e'; simp at hp; omega)]; exact h1
    · rw [World.cell?_setCell_other _ _ _ _ (fun e' => by subst e'; simp at hp; omega)]; exact h2⟩
/-- A part's copy. -/
def RetPart (w : World) (m : Nat) (xs : List Int) (t : Int) (e : Ending) (w' : World) : Prop :=
  ∃ B c, e = .returned (.agg #[.slice B m c, .int .i64 t]) ∧ (∀ a, B = some a → w.heap.size ≤ a.block) ∧ Ints w' B m xs ∧ Ext w w'
set_option maxHeartbeats 1000000 in
theorem toPart_any (B : Option Addr) (m c : Nat) (xs : List Int) (t : Int) (w : World) (hI : Ints w B m xs) (hm : m ≤ 1048576) :
    Calls Tryd.prog 54 #[.agg #[.slice B m c, .int .i64 t]] w (RetPart w m xs t) := by
  have hbd := Lib.hid hI.bds
  go_enter Tryd.func54, Tryd.ntmps54
  go_wp2_with fail
  (with_reducible refine (toInt64S_row _ m _ xs _ (hI.ext (by with_reducible (repeat (first | exact Ext.refl _ | apply Ext.drewN | apply Ext.drew | apply Ext.alloc | (refine Ext.set ?_ (by first | (simp; done) | (simp; omega) | omega) _) | (refine Ext.trans ?_ (by assumption)))))) hm).mono ?_)
  rintro e w1 ⟨A1, c1, rfl, R1, hx⟩
  have hz := hx.size
  (try simp at hz)
  have hb1 : ∀ a, A1 = some a → w.heap.size + 1 + 1 + 1 ≤ a.block := by
    intro a ha
    have := (R1.row_bd a.block (by rw [ha]; rfl)).1
    simpa using this
  have HB1 := Lib.hid hb1
  clear hb1
  have q0 : w.heap.size < w1.heap.size := by omega
  have q1 : w.heap.size + 1 < w1.heap.size := by omega
  have q2 : w.heap.size + 1 + 1 < w1.heap.size := by omega
  have k0 : ∀ o, w1.cell? ⟨w.heap.size, o, none⟩ = _ := fun o => hx.cells.1 _ o (by first | (simp; done) | (simp; omega) | omega)
  have k1 : ∀ o, w1.cell? ⟨w.heap.size + 1, o, none⟩ = _ := fun o => hx.cells.1 _ o (by first | (simp; done) | (simp; omega) | omega)
  have k2 : ∀ o, w1.cell? ⟨w.heap.size + 1 + 1, o, none⟩ = _ := fun o => hx.cells.1 _ o (by first | (simp; done) | (simp; omega) | omega)
  have f1 : ∀ o, w1.frozen? ⟨w.heap.size + 1, o, none⟩ = _ := fun o => hx.cells.2 _ o (by first | (simp; done) | (simp; omega) | omega)
  have f2 : ∀ o, w1.frozen? ⟨w.heap.size + 1 + 1, o, none⟩ = _ := fun o => hx.cells.2 _ o (by first | (simp; done) | (simp; omega) | omega)
  go_wp2
  have hJ := R1.ints (by omega) hbd.out
  rw [Nat.mul_one] at hJ
  refine bodyPost_ret (v := .agg #[.slice A1 m c1, .int .i64 t]) (by simp [results, Tryd.results54, go_sem, *]) rfl ⟨A1, c1, rfl, ?_, ?_, ?_⟩
  · intro a ha
    have := HB1.out a ha
    omega
  · repeat' apply Ints.far
    · exact hJ
    all_goals (intro a ha; have := HB1.out a ha; show a.block ≠ _; simp only []; omega)
  · exact (by with_reducible (repeat (first | exact Ext.refl _ | apply Ext.drewN | apply Ext.drew | apply Ext.alloc | (refine Ext.set ?_ (by first | (simp; done) | (simp; omega) | omega) _) | (refine Ext.trans ?_ (by assumption)))))
theorem infoPart : (Tryd.prog.info? 52).map (fun i => (i.zero, i.size, i.bytes)) = some (some (.agg #[.slice none 0 0, .int .i64 0]), 2, 32) := by kernel_rfl
theorem run_make_parts (n : Nat) (hn : n ≤ 1048576) (w : World) :
    (Instr.makeSlice 27 (.int .i64 (n : Int)) (.int .i64 (n : Int))).run Tryd.prog w = .ok (.slice (some ⟨w.heap.size, 0, none⟩) n n) (w.alloc (.cells (madeCells #[.slice none 0 0, .int .i64 0] (n * 2)) 52)) := by
  obtain ⟨i, hi, hzz⟩ := Option.map_eq_some_iff.1 infoPart
  simp only [Prod.mk.injEq] at hzz
  obtain ⟨hz, hs, hb⟩ := hzz
  have hr := run_make (P := Tryd.prog) w 27 52 i _ Tryd.underlying27 hi hz .i64 .i64 n n (by omega) (Int.le_refl _) (by rw [hb]; omega) (by omega)
  simp only [Int.toNat_natCast, hs] at hr
  exact hr
/-- Parts' copies, in blocks of the call's own. -/
def RetParts (w : World) (n : Nat) (ps : List (List Int × Int)) (e : Ending) (w' : World) : Prop :=
  ∃ A c, e = .returned (.slice A n c) ∧ PartsL w' w.heap.size A n ps ∧ Ext w w'
set_option maxHeartbeats 1000000 in
theorem toPartS_any (A : Option Addr) (n c : Nat) (ps : List (List Int × Int)) (w : World) (hP : Parts w A n ps) (hn : n ≤ 1048576) (hm : ∀ i, i < n → (pt ps i).length ≤ 1048576) :
    Calls Tryd.prog 24 #[.slice A n c] w (RetParts w n ps) := by
  have hmk := fun W => run_make_parts n hn W
  have HM := Lib.hid hm
  clear hm
  have hR0 : RowG (w.alloc (.cells (madeCells #[.slice none 0 0, .int .i64 0] (n * 2)) 52)) w.heap.size (w.heap.size + 1) 52 2 (some ⟨w.heap.size, 0, none⟩) n n (madeCells #[.slice none 0 0, .int .i64 0] (n * 2)).toList := by
    refine ⟨⟨by simp [size_madeCells], .inr ⟨w.heap.size, n, madeCells #[.slice none 0 0, .int .i64 0] (n * 2), rfl, Nat.le_refl _, heap_alloc_new _ _, Nat.le_refl _, by unfold maxLen; omega, by simp [size_madeCells], ?_⟩⟩, fun a ha => by cases ha; simp⟩
    exact List.take_of_length_le (by simp [size_madeCells])
  go_enter Tryd.func24, Tryd.ntmps24
  go_wp2
  clear hmk
  go_loopw [4] (fun i wr => ∃ k : Nat, k ≤ n ∧ i = .int .i64 k ∧ Ext w wr ∧ w.heap.size < wr.heap.size ∧ ∃ cs, RowG wr w.heap.size (w.heap.size + 1) 52 2 (some ⟨w.heap.size, 0, none⟩) n n cs ∧ ∀ j, j < k → ∃ (B : Option Addr) (m d : Nat), cs[j * 2]? = some (.slice B m d) ∧ cs[j * 2 + 1]? = some (.int .i64 (tm ps j)) ∧ (∀ a, B = some a → w.heap.size < a.block) ∧ Ints wr B m (pt ps j)) (fun i _ => n - (intOf i).toNat)
  case atStart => exact ⟨0, Nat.zero_le _, rfl, (Ext.refl _).alloc _, by simp, _, hR0, fun j h => absurd h (by omega)⟩
  case round =>
    obtain ⟨k, hk, rfl, hxe, hbig, cs, hrow, hcs⟩ := hrel
    have HCS := Lib.hid hcs
    clear hcs hR0
    by_cases hlt : k < n
    · obtain ⟨b, off, hA, hb, hcell⟩ := (hP.ext hxe).at_ (by omega)
      subst hA
      obtain ⟨B, m, d, c0, c1, hI⟩ := hcell k hlt
      have hki : (k : Int) < n := by omega
      have hmB : m ≤ 1048576 := by rw [← hI.len]; exact HM.out k hlt
      clear hcell
      obtain ⟨t, ht⟩ : ∃ t, tm ps k = t := ⟨_, rfl⟩
      rw [ht] at c1
      go_wp2_with fail
      (with_reducible refine (toPart_any B m d _ t _ (hI.ext (by with_reducible (repeat (first | exact Ext.refl _ | apply Ext.drewN | apply Ext.drew | apply Ext.alloc | (refine Ext.set ?_ (by first | (simp; done) | (simp; omega) | omega) _) | (refine Ext.trans ?_ (by assumption)))))) hmB).mono ?_)
      rintro e w2 ⟨B2, d2, rfl, hb2, hI2, hx2⟩
      have hrow2 := hrow.ext hx2
      have hz2 := hx2.size
      (try simp at hz2)
      have HB2 : Hid (∀ a, B2 = some a → w.heap.size < a.block) := fun a ha => by have := hb2 a ha; (try simp at this); omega
      clear hb2
      have hl := hrow2.len
      obtain ⟨d0, f0⟩ := hrow2.cellAt (p := k * 2) (by omega)
      obtain ⟨d1, f1⟩ := hrow2.cellAt (p := k * 2 + 1) (by omega)
      rw [List.getElem?_eq_getElem (by omega)] at d0 d1
      generalize cs[k * 2]'(by omega) = u0 at d0
      generalize cs[k * 2 + 1]'(by omega) = u1 at d1
      have hbg : w.heap.size < w2.heap.size := by omega
      have HN : Hid (RowG ((w2.setCell ⟨w.heap.size, k * 2, none⟩ (.slice B2 m d2)).setCell ⟨w.heap.size, k * 2 + 1, none⟩ (.int .i64 t)) w.heap.size (w.heap.size + 1) 52 2 (some ⟨w.heap.size, 0, none⟩) n n ((cs.set (k * 2) (.slice B2 m d2)).set (k * 2 + 1) (.int .i64 t)) ∧
          ∀ j, j < k + 1 → ∃ (B : Option Addr) (m' d : Nat), ((cs.set (k * 2) (.slice B2 m d2)).set (k * 2 + 1) (.int .i64 t))[j * 2]? = some (.slice B m' d) ∧ ((cs.set (k * 2) (.slice B2 m d2)).set (k * 2 + 1) (.int .i64 t))[j * 2 + 1]? = some (.int .i64 (tm ps j)) ∧ (∀ a, B = some a → w.heap.size < a.block) ∧ Ints ((w2.setCell ⟨w.heap.size, k * 2, none⟩ (.slice B2 m d2)).setCell ⟨w.heap.size, k * 2 + 1, none⟩ (.int .i64 t)) B m' (pt ps j)) := by
        refine ⟨(hrow2.store _ _).store _ _, fun j hj => ?_⟩
        by_cases e : j = k
        · subst e
          refine ⟨B2, m, d2, ?_, ?_, HB2.out, ?_⟩
          · rw [List.getElem?_set_ne (by omega), List.getElem?_set_self (by omega)]
          · rw [List.getElem?_set_self (by rw [List.length_set]; omega), ht]
          · exact (hI2.far (fun a ha => by have := HB2.out a ha; show a.block ≠ w.heap.size; omega) _).far (fun a ha => by have := HB2.out a ha; show a.block ≠ w.heap.size; omega) _
        · obtain ⟨B', m', d', e0, e1, e2, e3⟩ := HCS.out j (by omega)
          refine ⟨B', m', d', ?_, ?_, e2, ?_⟩
          · rw [List.getElem?_set_ne (by omega), List.getElem?_set_ne (by omega), e0]
          · rw [List.getElem?_set_ne (by omega), List.getElem?_set_ne (by omega), e1]
          · exact ((e3.ext (Ext.trans (by with_reducible (repeat (first | exact Ext.refl _ | apply Ext.drewN | apply Ext.drew | apply Ext.alloc | (refine Ext.set ?_ (by first | (simp; done) | (simp; omega) | omega) _) | (refine Ext.trans ?_ (by assumption))))) hx2)).far (fun a ha => by have := e2 a ha; show a.block ≠ w.heap.size; omega) _).far (fun a ha => by have := e2 a ha; show a.block ≠ w.heap.size; omega) _
      have hxn : Ext w ((w2.setCell ⟨w.heap.size, k * 2, none⟩ (.slice B2 m d2)).setCell ⟨w.heap.size, k * 2 + 1, none⟩ (.int .i64 t)) := ((hxe.trans (Ext.trans (by with_reducible (repeat (first | exact Ext.refl _ | apply Ext.drewN | apply Ext.drew | apply Ext.alloc | (refine Ext.set ?_ (by first | (simp; done) | (simp; omega) | omega) _) | (refine Ext.trans ?_ (by assumption))))) hx2)).set (Nat.le_refl _) _).set (Nat.le_refl _) _
      go_wp2
      go_roundw
      case rel => exact ⟨k + 1, by omega, by go_num, hxn, by simpa [World.setCell] using hbg, _, HN.out.1, HN.out.2⟩
      case measure => simp [intOf]; omega
    · obtain rfl : k = n := by omega
      have HT : Hid (RetParts w k ps (.returned (.slice (some ⟨w.heap.size, 0, none⟩) k k)) wr) := by
        refine ⟨_, _, rfl, ⟨hP.len, hP.small, hP.bds, fun hn0 => ⟨w.heap.size, 0, rfl, Nat.le_refl _, hbig, fun i hi => ?_⟩⟩, hxe⟩
        obtain ⟨B, m, d, e0, e1, e2, e3⟩ := HCS.out i hi
        refine ⟨B, m, d, ?_, ?_, fun a ha => by have := e2 a ha; omega, e3⟩
        · rw [Nat.zero_add, (hrow.cellAt (p := i * 2) (by omega)).1, e0]
        · rw [Nat.zero_add, (hrow.cellAt (p := i * 2 + 1) (by omega)).1, e1]
      go_wp2
      go_ret
      exact HT.out
/-- A routine's copy. -/
def RetRoutine (w : World) (h : Int) (n : Nat) (ps : List (List Int × Int)) (e : Ending) (w' : World) : Prop :=
  ∃ A c, e = .returned (.agg #[.int .i64 h, .slice A n c]) ∧ Parts w' A n ps ∧ Ext w w'
set_option maxHeartbeats 1000000 in
theorem toRoutine_any (A : Option Addr) (n c : Nat) (ps : List (List Int × Int)) (h : Int) (w : World) (hP : Parts w A n ps) (hn : n ≤ 1048576) (hm : ∀ i, i < n → (pt ps i).length ≤ 1048576) :
    Calls Tryd.prog 8 #[.agg #[.int .i64 h, .slice A n c]] w (RetRoutine w h n ps) := by
  have HM := Lib.hid hm
  clear hm
  go_enter Tryd.func8, Tryd.ntmps8
  go_wp2_with fail
  (with_reducible refine (toPartS_any _ n _ ps _ (hP.ext (by with_reducible (repeat (first | exact Ext.refl _ | apply Ext.drewN | apply Ext.drew | apply Ext.alloc | (refine Ext.set ?_ (by first | (simp; done) | (simp; omega) | omega) _) | (refine Ext.trans ?_ (by assumption)))))) hn HM.out).mono ?_)
  rintro e w1 ⟨A1, c1, rfl, P1, hx⟩
  have hz := hx.size
  (try simp at hz)
  have q0 : w.heap.size < w1.heap.size := by omega
  have q1 : w.heap.size + 1 < w1.heap.size := by omega
  have q2 : w.heap.size + 1 + 1 < w1.heap.size := by omega
  have k0 : ∀ o, w1.cell? ⟨w.heap.size, o, none⟩ = _ := fun o => hx.cells.1 _ o (by first | (simp; done) | (simp; omega) | omega)
  have k1 : ∀ o, w1.cell? ⟨w.heap.size + 1, o, none⟩ = _ := fun o => hx.cells.1 _ o (by first | (simp; done) | (simp; omega) | omega)
  have k2 : ∀ o, w1.cell? ⟨w.heap.size + 1 + 1, o, none⟩ = _ := fun o => hx.cells.1 _ o (by first | (simp; done) | (simp; omega) | omega)
  have f1 : ∀ o, w1.frozen? ⟨w.heap.size + 1, o, none⟩ = _ := fun o => hx.cells.2 _ o (by first | (simp; done) | (simp; omega) | omega)
  have f2 : ∀ o, w1.frozen? ⟨w.heap.size + 1 + 1, o, none⟩ = _ := fun o => hx.cells.2 _ o (by first | (simp; done) | (simp; omega) | omega)
  have HP := Lib.hid P1
  clear P1
  go_wp2
  refine bodyPost_ret (v := .agg #[.int .i64 h, .slice A1 n c1]) (by simp [results, Tryd.results8, go_sem, *]) rfl ⟨A1, c1, rfl, ?_, ?_⟩
  · have P1 := HP.out
    apply PartsL.parts
    repeat' apply PartsL.far
    · exact P1
    all_goals (first | (simp [World.setCell]; done) | (simp [World.setCell]; omega))
  · exact (by with_reducible (repeat (first | exact Ext.refl _ | apply Ext.drewN | apply Ext.drew | apply Ext.alloc | (refine Ext.set ?_ (by first | (simp; done) | (simp; omega) | omega) _) | (refine Ext.trans ?_ (by assumption)))))
set_option maxHeartbeats 400000 in
theorem eqPart_same (A B : Option Addr) (m c d : Nat) (xs : List Int) (t : Int) (w : World) (hI : Ints w A m xs) (hJ : Ints w B m xs) :
    Calls Tryd.prog 61 #[.agg #[.slice A m c, .int .i64 t], .agg #[.slice B m d, .int .i64 t]] w (fun e w' => e = .returned (.bool true) ∧ Ext w w') := by
  go_enter Tryd.func61, Tryd.ntmps61
  go_wp2_with fail
  (with_reducible refine (eqInt64S_same _ _ m _ _ xs _ (hI.ext (by with_reducible (repeat (first | exact Ext.refl _ | apply Ext.drewN | apply Ext.drew | apply Ext.alloc | (refine Ext.set ?_ (by first | (simp; done) | (simp; omega) | omega) _) | (refine Ext.trans ?_ (by assumption)))))) (hJ.ext (by with_reducible (repeat (first | exact Ext.refl _ | apply Ext.drewN | apply Ext.drew | apply Ext.alloc | (refine Ext.set ?_ (by first | (simp; done) | (simp; omega) | omega) _) | (refine Ext.trans ?_ (by assumption))))))).mono ?_)
  rintro e w1 ⟨rfl, q, rfl⟩
  go_wp2
  go_ret
  exact ⟨rfl, (by with_reducible (repeat (first | exact Ext.refl _ | apply Ext.drewN | apply Ext.drew | apply Ext.alloc | (refine Ext.set ?_ (by first | (simp; done) | (simp; omega) | omega) _) | (refine Ext.trans ?_ (by assumption)))))⟩
set_option maxHeartbeats 1000000 in
theorem eqPartS_same (A B : Option Addr) (n c d : Nat) (ps : List (List Int × Int)) (w : World) (hP : Parts w A n ps) (hQ : Parts w B n ps) :
    Calls Tryd.prog 28 #[.slice A n c, .slice B n d] w (fun e w' => e = .returned (.bool true) ∧ Ext w w') := by
  have hsm := hP.small
  go_enter Tryd.func28, Tryd.ntmps28
  go_wp2
  go_loopw [5] (fun i wr => ∃ k : Nat, k ≤ n ∧ i = .int .i64 k ∧ Ext w wr) (fun i _ => n - (intOf i).toNat)
  case atStart => exact ⟨0, Nat.zero_le _, rfl, Ext.refl _⟩
  case round =>
    obtain ⟨j, hj, rfl, hx⟩ := hrel
    by_cases hlt : j < n
    · obtain ⟨b, off, hA, hb, hcell⟩ := (hP.ext hx).at_ (by omega)
      obtain ⟨b2, off2, hB, hb2, hcell2⟩ := (hQ.ext hx).at_ (by omega)
      subst hA hB
      have i1 : (j : Int) < n := by omega
      obtain ⟨B1, m1, d1, c0, c1, I1⟩ := hcell j hlt
      obtain ⟨B2, m2, d2, e0, e1, I2⟩ := hcell2 j hlt
      obtain rfl : m1 = m2 := I1.len.symm.trans I2.len
      clear hcell hcell2
      obtain ⟨t, ht⟩ : ∃ t, tm ps j = t := ⟨_, rfl⟩
      obtain ⟨xs, hxs⟩ : ∃ xs, pt ps j = xs := ⟨_, rfl⟩
      rw [ht] at c1 e1
      rw [hxs] at I1 I2
      clear ht hxs
      go_wp2
      go_region_held3 (fun wz => wz.cell? ⟨b, off + j * 2, none⟩ = some (.slice B1 m1 d1) ∧ wz.cell? ⟨b, off + j * 2 + 1, none⟩ = some (.int .i64 t) ∧ wz.cell? ⟨b2, off2 + j * 2, none⟩ = some (.slice B2 m1 d2) ∧ wz.cell? ⟨b2, off2 + j * 2 + 1, none⟩ = some (.int .i64 t)) (go_keep)
        (first | (go_at_call 61; (with_reducible refine (eqPart_same B1 B2 m1 d1 d2 xs t _ (I1.ext (by with_reducible (repeat (first | exact Ext.refl _ | apply Ext.drewN | apply Ext.drew | apply Ext.alloc | (refine Ext.set ?_ (by first | (simp; done) | (simp; omega) | omega) _) | (refine Ext.trans ?_ (by assumption)))))) (I2.ext (by with_reducible (repeat (first | exact Ext.refl _ | apply Ext.drewN | apply Ext.drew | apply Ext.alloc | (refine Ext.set ?_ (by first | (simp; done) | (simp; omega) | omega) _) | (refine Ext.trans ?_ (by assumption))))))).mono ?_); rintro e w1 ⟨rfl, hx1⟩; have hk1 : ∀ o, w1.cell? ⟨b, o, none⟩ = _ := fun o => hx1.cells.1 _ o (by first | (simp; done) | (simp; omega) | omega); have hk2 : ∀ o, w1.cell? ⟨b2, o, none⟩ = _ := fun o => hx1.cells.1 _ o (by first | (simp; done) | (simp; omega) | omega)))
      go_wp2
      go_roundw
      case rel => exact ⟨j + 1, by omega, by go_num, (by with_reducible (repeat (first | exact Ext.refl _ | apply Ext.drewN | apply Ext.drew | apply Ext.alloc | (refine Ext.set ?_ (by first | (simp; done) | (simp; omega) | omega) _) | (refine Ext.trans ?_ (by assumption)))))⟩
      case measure => simp [intOf]; omega
    · obtain rfl : j = n := by omega
      go_wp2
      go_ret
      exact ⟨rfl, (by with_reducible (repeat (first | exact Ext.refl _ | apply Ext.drewN | apply Ext.drew | apply Ext.alloc | (refine Ext.set ?_ (by first | (simp; done) | (simp; omega) | omega) _) | (refine Ext.trans ?_ (by assumption)))))⟩
set_option maxHeartbeats 400000 in
theorem eqRoutine_same (A B : Option Addr) (n c d : Nat) (ps : List (List Int × Int)) (h : Int) (w : World) (hP : Parts w A n ps) (hQ : Parts w B n ps) :
    Calls Tryd.prog 10 #[.agg #[.int .i64 h, .slice A n c], .agg #[.int .i64 h, .slice B n d]] w (fun e w' => e = .returned (.bool true) ∧ Ext w w') := by
  go_enter Tryd.func10, Tryd.ntmps10
  go_wp2_with fail
  (with_reducible refine (eqPartS_same _ _ n _ _ ps _ (hP.ext (by with_reducible (repeat (first | exact Ext.refl _ | apply Ext.drewN | apply Ext.drew | apply Ext.alloc | (refine Ext.set ?_ (by first | (simp; done) | (simp; omega) | omega) _) | (refine Ext.trans ?_ (by assumption)))))) (hQ.ext (by with_reducible (repeat (first | exact Ext.refl _ | apply Ext.drewN | apply Ext.drew | apply Ext.alloc | (refine Ext.set ?_ (by first | (simp; done) | (simp; omega) | omega) _) | (refine Ext.trans ?_ (by assumption))))))).mono ?_)
  rintro e w1 ⟨rfl, hx⟩
  go_wp2
  go_ret
  exact ⟨rfl, (by with_reducible (repeat (first | exact Ext.refl _ | apply Ext.drewN | apply Ext.drew | apply Ext.alloc | (refine Ext.set ?_ (by first | (simp; done) | (simp; omega) | omega) _) | (refine Ext.trans ?_ (by assumption)))))⟩
end Go.Proofs.YtinkaglngblddaaDoor
