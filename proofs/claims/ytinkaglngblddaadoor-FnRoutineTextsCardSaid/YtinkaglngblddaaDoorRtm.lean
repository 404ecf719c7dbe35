/- Routines: words for parts in rows of a call's own, and their marks. Plain lemmas. -/
import Derived.Test.YtinkaglngblddaaDoorRtn2
import Derived.Test.YtinkaglngblddaaDoorThw
import Derived.Test.YtinkaglngblddaaDoorRow
namespace Go.Proofs.YtinkaglngblddaaDoor
set_option linter.unusedVariables false
set_option linter.unusedSimpArgs false
open Go.ChangeShapes Go.WideShapes Go.ChangeAt Go.RowKit Go.Joins Go.Deep

/-- A function that is v at j. -/
def upd {α : Type} (f : Nat → α) (j : Nat) (v : α) : Nat → α := fun i => if i = j then v else f i
theorem upd_self {α : Type} (f : Nat → α) (j : Nat) (v : α) : upd f j v j = v := if_pos rfl
theorem upd_ne {α : Type} (f : Nat → α) {i j : Nat} (v : α) (h : i ≠ j) : upd f j v i = f i := if_neg h
theorem Row.held {w w' : World} {lo lo' hi hi' : Nat} {e : TypeId} {m : Nat} {A : Option Addr} {n c : Nat} {xs : List Int} (h : Row w lo hi e m A n c xs) (k : Kept lo' hi' w w') (hr : hi ≤ lo' ∨ hi' ≤ lo) : Row w' lo hi e m A n c xs := by
  refine ⟨⟨h.own.1, ?_⟩, h.top⟩
  rcases h.own.2 with h0 | ⟨g, cap, cur, ev, hb, hg, rest⟩
  · exact .inl h0
  · refine .inr ⟨g, cap, cur, ev, hb, ?_, rest⟩
    simp only [Value.slice.injEq] at ev
    have ht := h.top _ ev.1
    simp at ht
    rw [k.block g (Array.getElem?_eq_some_iff.1 hg).1 (by omega)]
    exact hg
theorem Row.beside {w w' : World} {lo hi : Nat} {e : TypeId} {m : Nat} {A : Option Addr} {n c : Nat} {xs : List Int} (h : Row w lo hi e m A n c xs) {row : Option Nat} (k : w.grownBy w' row) (hr : ∀ g, row = some g → A.map (·.block) ≠ some g) : Row w' lo hi e m A n c xs := by
  refine ⟨⟨h.own.1, ?_⟩, h.top⟩
  rcases h.own.2 with h0 | ⟨g, cap, cur, ev, hb, hg, rest⟩
  · exact .inl h0
  · refine .inr ⟨g, cap, cur, ev, hb, ?_, rest⟩
    simp only [Value.slice.injEq] at ev
    rw [k.block g (Array.getElem?_eq_some_iff.1 hg).1 (fun e' => by have := hr _ e'.symm; rw [ev.1] at this; exact this rfl)]
    exact hg
theorem Row.wide {w : World} {lo lo' hi hi' : Nat} {e : TypeId} {m : Nat} {A : Option Addr} {n c : Nat} {xs : List Int} (h : Row w lo hi e m A n c xs) (h1 : lo' ≤ lo) (h2 : hi ≤ hi') : Row w lo' hi' e m A n c xs :=
  ⟨ownsRow_le h.own h1, fun a ha => Nat.lt_of_lt_of_le (h.top a ha) h2⟩
theorem Row.otherCell {w : World} {lo hi : Nat} {e : TypeId} {m : Nat} {A : Option Addr} {n c : Nat} {xs : List Int} (h : Row w lo hi e m A n c xs) {p : Addr} (hp : A.map (·.block) ≠ some p.block) (u : Value) : Row (w.setCell p u) lo hi e m A n c xs :=
  h.beside (row := some p.block) ⟨rfl, rfl, rfl, by simp [World.setCell], fun i hi hne => Below.heap_setCell w p u i (by rintro rfl; exact hne rfl)⟩ (fun g hg => by cases hg; exact hp)
/-- Parts in rows between the blocks lo and hi: the row of parts, and a row for the pattern of each, all in blocks of their own. -/
structure PRowF (w : World) (lo hi : Nat) (A : Option Addr) (n c : Nat) (H : Nat → Option Addr × Nat) (X : Nat → List Int) (T : Nat → Int) : Prop where
  row : ∃ cs, RowG w lo hi 52 2 A n c cs ∧ ∀ i, i < n → cs[i * 2]? = some (.slice (H i).1 (X i).length (H i).2) ∧ cs[i * 2 + 1]? = some (.int .i64 (T i))
  rows : ∀ i, i < n → Row w lo hi 2 1 (H i).1 (X i).length (H i).2 (X i)
  apart : ∀ i j, i < n → j < n → i ≠ j → ∀ g, (H i).1.map (·.block) = some g → (H j).1.map (·.block) ≠ some g
  alone : ∀ i, i < n → ∀ g, (H i).1.map (·.block) = some g → A.map (·.block) ≠ some g
section
variable {w w' : World} {lo lo' hi hi' : Nat} {A : Option Addr} {n c : Nat} {H : Nat → Option Addr × Nat} {X Y : Nat → List Int} {T U : Nat → Int}
theorem PRowF.congr (h : PRowF w lo hi A n c H X T) (hx : ∀ i, i < n → X i = Y i) (ht : ∀ i, i < n → T i = U i) : PRowF w lo hi A n c H Y U := by
  obtain ⟨cs, hr, hc⟩ := h.row
  refine ⟨⟨cs, hr, fun i hi => ?_⟩, fun i hi => ?_, h.apart, h.alone⟩
  · rw [← hx i hi, ← ht i hi]; exact hc i hi
  · rw [← hx i hi]; exact h.rows i hi
theorem PRowF.ext (h : PRowF w lo hi A n c H X T) (k : Ext w w') : PRowF w' lo hi A n c H X T := by
  obtain ⟨cs, hr, hc⟩ := h.row
  exact ⟨⟨cs, hr.ext k, hc⟩, fun i hi => (h.rows i hi).ext k, h.apart, h.alone⟩
theorem PRowF.held (h : PRowF w lo hi A n c H X T) (k : Kept lo' hi' w w') (hr : hi ≤ lo' ∨ hi' ≤ lo) : PRowF w' lo hi A n c H X T := by
  obtain ⟨cs, hr', hc⟩ := h.row
  exact ⟨⟨cs, hr'.held k hr, hc⟩, fun i hi => (h.rows i hi).held k hr, h.apart, h.alone⟩
theorem PRowF.wide (h : PRowF w lo hi A n c H X T) (h1 : lo' ≤ lo) (h2 : hi ≤ hi') : PRowF w lo' hi' A n c H X T := by
  obtain ⟨cs, hr', hc⟩ := h.row
  exact ⟨⟨cs, hr'.wide h1 h2, hc⟩, fun i hi => (h.rows i hi).wide h1 h2, h.apart, h.alone⟩
theorem PRowF.far (h : PRowF w lo hi A n c H X T) {p : Addr} (hp : p.block < lo ∨ hi ≤ p.block) (v : Value) : PRowF (w.setCell p v) lo hi A n c H X T := by
  obtain ⟨cs, hr', hc⟩ := h.row
  refine ⟨⟨cs, hr'.keep hp v, hc⟩, fun i hi => (h.rows i hi).otherCell (fun e => ?_) v, h.apart, h.alone⟩
  have := (h.rows i hi).row_bd _ e
  omega
theorem PRowF.nil (w : World) (lo hi : Nat) (H : Nat → Option Addr × Nat) (X : Nat → List Int) (T : Nat → Int) : PRowF w lo hi none 0 0 H X T :=
  ⟨⟨[], RowG.nil _ _ _ _ _, fun i h => absurd h (by omega)⟩, fun i h => absurd h (by omega), fun i j h => absurd h (by omega), fun i h => absurd h (by omega)⟩
/-- A row of a part is written. -/
theorem PRowF.rewrite (h : PRowF w lo hi A n c H X T) {j : Nat} (hj : j < n) {Z : List Int} (hl : Z.length = (X j).length) (k : w.grownBy w' ((H j).1.map (·.block))) (R : Row w' lo hi 2 1 (H j).1 (X j).length (H j).2 Z) : PRowF w' lo hi A n c H (upd X j Z) T := by
  obtain ⟨cs, hr, hc⟩ := h.row
  have hX : ∀ i, (upd X j Z i).length = (X i).length := by
    intro i
    by_cases e : i = j
    · subst e; rw [upd_self]; exact hl
    · rw [upd_ne _ _ e]
  refine ⟨⟨cs, hr.beside k (fun g hg => h.alone j hj g hg), fun i hi => ?_⟩, fun i hi => ?_, h.apart, h.alone⟩
  · rw [hX]; exact hc i hi
  · rw [hX]
    by_cases e : i = j
    · subst e; rw [upd_self]; exact R
    · rw [upd_ne _ _ e]; exact (h.rows i hi).beside k (fun g hg => h.apart j i hj hi (fun e' => e e'.symm) g hg)
theorem PRowF.form (h : PRowF w lo hi A n c H X T) (hn : 0 < n) : ∃ g, A = some ⟨g, 0, none⟩ ∧ g < w.heap.size ∧ lo ≤ g ∧ g < hi := by
  obtain ⟨cs, hr, _⟩ := h.row
  obtain ⟨g, rfl, h1⟩ := hr.form hn
  have := hr.row_bd g rfl
  exact ⟨g, rfl, h1, this⟩
theorem PRowF.cells {g : Nat} (h : PRowF w lo hi (some ⟨g, 0, none⟩) n c H X T) {j : Nat} (hj : j < n) :
    w.cell? ⟨g, j * 2, none⟩ = some (.slice (H j).1 (X j).length (H j).2) ∧ w.cell? ⟨g, j * 2 + 1, none⟩ = some (.int .i64 (T j)) ∧ w.frozen? ⟨g, j * 2, none⟩ = false ∧ w.frozen? ⟨g, j * 2 + 1, none⟩ = false := by
  obtain ⟨cs, hr, hc⟩ := h.row
  have hl := hr.len
  obtain ⟨d0, f0⟩ := hr.cellAt (p := j * 2) (by omega)
  obtain ⟨d1, f1⟩ := hr.cellAt (p := j * 2 + 1) (by omega)
  exact ⟨d0.trans (hc j hj).1, d1.trans (hc j hj).2, f0, f1⟩
/-- The number of a part is written. -/
theorem PRowF.number {g : Nat} (h : PRowF w lo hi (some ⟨g, 0, none⟩) n c H X T) {j : Nat} (hj : j < n) (t : Int) : PRowF (w.setCell ⟨g, j * 2 + 1, none⟩ (.int .i64 t)) lo hi (some ⟨g, 0, none⟩) n c H X (upd T j t) := by
  obtain ⟨cs, hr, hc⟩ := h.row
  have hl := hr.len
  refine ⟨⟨_, hr.store _ _, fun i hi => ?_⟩, fun i hi => (h.rows i hi).otherCell (p := ⟨g, j * 2 + 1, none⟩) (fun e => h.alone i hi g e rfl) _, h.apart, h.alone⟩
  obtain ⟨h1, h2⟩ := hc i hi
  rw [List.getElem?_set_ne (by omega)]
  refine ⟨h1, ?_⟩
  by_cases e : i = j
  · subst e; rw [upd_self, List.getElem?_set_self (by omega)]
  · rw [upd_ne _ _ e, List.getElem?_set_ne (by omega)]; exact h2
/-- A part is written whose row lies behind all. -/
theorem PRowF.put {g : Nat} (h : PRowF w lo hi (some ⟨g, 0, none⟩) n c H X T) {j : Nat} (hj : j < n) {lo2 hi2 : Nat} {B : Option Addr} {m d : Nat} {xs : List Int} (R : Row w lo2 hi2 2 1 B m d xs) (hm : xs.length = m) (h1 : hi ≤ lo2) (h2 : hi ≤ hi2) (h0 : lo ≤ lo2) (t : Int) :
    PRowF ((w.setCell ⟨g, j * 2, none⟩ (.slice B m d)).setCell ⟨g, j * 2 + 1, none⟩ (.int .i64 t)) lo hi2 (some ⟨g, 0, none⟩) n c (upd H j (B, d)) (upd X j xs) (upd T j t) := by
  obtain ⟨cs, hr, hc⟩ := h.row
  have hl := hr.len
  have hgb := hr.row_bd g rfl
  subst hm
  refine ⟨⟨_, ((hr.store _ _).store _ _).wide (Nat.le_refl _) h2, fun i hi => ?_⟩, fun i hi => ?_, fun i k hi hk hne g' hg' => ?_, fun i hi g' hg' => ?_⟩
  · by_cases e : i = j
    · subst e
      rw [upd_self, upd_self, upd_self]
      refine ⟨?_, ?_⟩
      · rw [List.getElem?_set_ne (by omega), List.getElem?_set_self (by omega)]
      · rw [List.getElem?_set_self (by rw [List.length_set]; omega)]
    · obtain ⟨e0, e1⟩ := hc i hi
      rw [upd_ne _ _ e, upd_ne _ _ e, upd_ne _ _ e]
      refine ⟨?_, ?_⟩
      · rw [List.getElem?_set_ne (by omega), List.getElem?_set_ne (by omega), e0]
      · rw [List.getElem?_set_ne (by omega), List.getElem?_set_ne (by omega), e1]
  · by_cases e : i = j
    · subst e
      rw [upd_self, upd_self]
      exact ((R.otherCell (fun e => by have := R.row_bd _ e; simp at this; omega) _).otherCell (fun e => by have := R.row_bd _ e; simp at this; omega) _).wide h0 (Nat.le_refl _)
    · rw [upd_ne _ _ e, upd_ne _ _ e]
      exact (((h.rows i hi).otherCell (p := ⟨g, j * 2, none⟩) (fun e => h.alone i hi g e rfl) _).otherCell (p := ⟨g, j * 2 + 1, none⟩) (fun e => h.alone i hi g e rfl) _).wide (Nat.le_refl _) h2
  · intro e2
    by_cases e : i = j
    · subst e
      rw [upd_self] at hg'
      rw [upd_ne _ _ (fun e' => hne e'.symm)] at e2
      have := R.row_bd _ hg'
      have := (h.rows k hk).row_bd _ e2
      omega
    · rw [upd_ne _ _ e] at hg'
      by_cases e' : k = j
      · subst e'
        rw [upd_self] at e2
        have := R.row_bd _ e2
        have := (h.rows i hi).row_bd _ hg'
        omega
      · rw [upd_ne _ _ e'] at e2
        exact h.apart i k hi hk hne g' hg' e2
  · by_cases e : i = j
    · subst e
      rw [upd_self] at hg'
      intro e2
      have := R.row_bd _ hg'
      simp at e2
      omega
    · rw [upd_ne _ _ e] at hg'
      exact h.alone i hi g' hg'
/-- What is read. -/
theorem PRowF.parts (h : PRowF w lo hi A n c H X T) (hn : n ≤ 1000000000) {ps : List (List Int × Int)} (hl : ps.length = n) (hx : ∀ i, i < n → X i = pt ps i) (ht : ∀ i, i < n → T i = tm ps i)
    (hbx : ∀ i, i < n → (X i).length ≤ 1000000000 ∧ ∀ y ∈ X i, -9223372036854775808 ≤ y ∧ y ≤ 9223372036854775807) (hbt : ∀ i, i < n → -9223372036854775808 ≤ T i ∧ T i ≤ 9223372036854775807) : Parts w A n ps := by
  refine ⟨hl, by omega, fun i hi => by rw [← ht i hi]; exact hbt i hi, fun h0 => ?_⟩
  obtain ⟨g, rfl, hg, _⟩ := h.form h0
  refine ⟨g, 0, rfl, hg, fun i hi => ?_⟩
  obtain ⟨c0, c1, _⟩ := h.cells hi
  refine ⟨_, _, _, by rw [Nat.zero_add]; exact c0, by rw [Nat.zero_add, c1, ht i hi], ?_⟩
  have hb := hbx i hi
  have := (h.rows i hi).ints (by omega) hb.2
  rw [Nat.mul_one] at this
  rw [← hx i hi]
  exact this
end
/-- Numbers of an int's width. -/
def bdP (ps : List (List Int × Int)) : Prop := ∀ i, i < ps.length → (pt ps i).length ≤ 1048576 ∧ (∀ y ∈ pt ps i, -9223372036854775808 ≤ y ∧ y ≤ 9223372036854775807) ∧ -9223372036854775808 ≤ tm ps i ∧ tm ps i ≤ 9223372036854775807
/-- Parts in rows of a call's own. -/
structure PRow (w : World) (lo hi : Nat) (A : Option Addr) (n c : Nat) (ps : List (List Int × Int)) : Prop where
  len : ps.length = n
  rows : ∃ H, PRowF w lo hi A n c H (pt ps) (tm ps)
section
variable {w w' : World} {lo lo' hi hi' : Nat} {A : Option Addr} {n c : Nat} {ps : List (List Int × Int)}
theorem PRow.ext (h : PRow w lo hi A n c ps) (k : Ext w w') : PRow w' lo hi A n c ps := ⟨h.len, h.rows.imp fun _ hh => hh.ext k⟩
theorem PRow.held (h : PRow w lo hi A n c ps) (k : Kept lo' hi' w w') (hr : hi ≤ lo' ∨ hi' ≤ lo) : PRow w' lo hi A n c ps := ⟨h.len, h.rows.imp fun _ hh => hh.held k hr⟩
theorem PRow.wide (h : PRow w lo hi A n c ps) (h1 : lo' ≤ lo) (h2 : hi ≤ hi') : PRow w lo' hi' A n c ps := ⟨h.len, h.rows.imp fun _ hh => hh.wide h1 h2⟩
theorem PRow.far (h : PRow w lo hi A n c ps) {p : Addr} (hp : p.block < lo ∨ hi ≤ p.block) (v : Value) : PRow (w.setCell p v) lo hi A n c ps := ⟨h.len, h.rows.imp fun _ hh => hh.far hp v⟩
theorem PRow.nil (w : World) (lo hi : Nat) : PRow w lo hi none 0 0 [] := ⟨rfl, fun _ => (none, 0), PRowF.nil _ _ _ _ _ _⟩
theorem PRow.parts (h : PRow w lo hi A n c ps) (hn : n ≤ 1000000000) (hb : bdP ps) : Parts w A n ps := by
  obtain ⟨H, hh⟩ := h.rows
  exact hh.parts hn h.len (fun _ _ => rfl) (fun _ _ => rfl) (fun i hi => ⟨by have := (hb i (by rw [h.len]; exact hi)).1; omega, (hb i (by rw [h.len]; exact hi)).2.1⟩) (fun i hi => (hb i (by rw [h.len]; exact hi)).2.2)
end
theorem Parts.bd {w : World} {A : Option Addr} {n : Nat} {ps : List (List Int × Int)} (h : Parts w A n ps) (hm : ∀ i, i < n → (pt ps i).length ≤ 1048576) : bdP ps := fun i hi => by
  rw [h.len] at hi
  obtain ⟨b, off, _, _, hc⟩ := h.at_ (by omega)
  obtain ⟨_, _, _, _, _, hI⟩ := hc i hi
  exact ⟨hm i hi, hI.bds, h.bds i hi⟩
/-- The sum of the marks that the first j parts take. -/
def sm (f : Nat → Nat) : Nat → Int
  | 0 => 0
  | j + 1 => sm f j + f j + 1
theorem sm_bd (f : Nat → Nat) {n : Nat} (hf : ∀ i, i < n → f i ≤ 1048576) : ∀ j, j ≤ n → 0 ≤ sm f j ∧ sm f j ≤ j * 1048577
  | 0, _ => by simp [sm]
  | j + 1, h => by
    have h1 := sm_bd f hf j (by omega)
    have h2 := hf j (by omega)
    unfold sm
    omega
theorem sm_congr {f g : Nat → Nat} : ∀ {j : Nat}, (∀ i, i < j → f i = g i) → sm f j = sm g j
  | 0, _ => rfl
  | j + 1, h => by unfold sm; rw [sm_congr (fun i hi => h i (by omega)), h j (by omega)]
/-- The parts that a mark leaves. -/
def mkP (k : Int) (n : Nat) (f : Nat → Nat) : List (List Int × Int) := (List.range n).map (fun i => (marks (k + sm f i) (f i), k + sm f i + f i))
theorem mkP_len (k : Int) (n : Nat) (f : Nat → Nat) : (mkP k n f).length = n := by simp [mkP]
theorem mkP_pt {k : Int} {n i : Nat} {f : Nat → Nat} (h : i < n) : pt (mkP k n f) i = marks (k + sm f i) (f i) := by simp [pt, mkP, h]
theorem mkP_tm {k : Int} {n i : Nat} {f : Nat → Nat} (h : i < n) : tm (mkP k n f) i = k + sm f i + f i := by simp [tm, mkP, h]
theorem mkP_bd {k : Int} {n : Nat} {f : Nat → Nat} (hk : 0 ≤ k ∧ k ≤ 1000) (hn : n ≤ 1048576) (hf : ∀ i, i < n → f i ≤ 1048576) : bdP (mkP k n f) := fun i hi => by
  rw [mkP_len] at hi
  have h1 := sm_bd f hf i (by omega)
  have h2 := hf i hi
  have h3 : (i : Int) ≤ 1048576 := by omega
  rw [mkP_pt hi, mkP_tm hi, marks_len]
  refine ⟨h2, marks_bd (by omega) (by omega), by omega, by omega⟩
theorem sm_lt {f : Nat → Nat} {n : Nat} (hf : ∀ i, i < n → f i ≤ 1048576) (hn : n ≤ 1048576) {j : Nat} (hj : j ≤ n) : 0 ≤ sm f j ∧ sm f j ≤ 1100000000000 := by
  have h1 := sm_bd f hf j hj
  have h3 : (j : Int) ≤ 1048576 := by omega
  omega
end Go.Proofs.YtinkaglngblddaaDoor
