/- Beats of synchronous patterns: words for lists of beats, an argument's reading, and contracts of the laws' copies, sizes, comparisons and marks. No condition but the stated bounds. -/
import Derived.Test.YtbihbhdaenhdoaaGreatThr2
namespace Go.Proofs.YtbihbhdaenhdoaaGreat
set_option linter.unusedVariables false
set_option linter.unusedSimpArgs false
open Go.ChangeShapes Go.WideShapes Go.ChangeAt Go.RowKit Go.Joins Go.Deep

/-- The slice (A, n) of beats holds the throws ts, two a beat. -/
structure Syn (w : World) (A : Option Addr) (n : Nat) (ts : List (Int × Bool)) : Prop where
  len : ts.length = 2 * n
  small : n ≤ 9223372036854775807
  at_ : 0 < n → ∃ b off, A = some ⟨b, off, none⟩ ∧ b < w.heap.size ∧ ∀ i, i < n → w.cell? ⟨b, off + i * 4, none⟩ = some (.int .i64 (tv ts (2 * i))) ∧ w.cell? ⟨b, off + i * 4 + 1, none⟩ = some (.bool (tp ts (2 * i))) ∧ w.cell? ⟨b, off + i * 4 + 2, none⟩ = some (.int .i64 (tv ts (2 * i + 1))) ∧ w.cell? ⟨b, off + i * 4 + 3, none⟩ = some (.bool (tp ts (2 * i + 1)))
theorem Syn.ext {w w' : World} {A : Option Addr} {n : Nat} {ts : List (Int × Bool)} (h : Syn w A n ts) (k : Ext w w') : Syn w' A n ts :=
  ⟨h.len, h.small, fun hn => by
    obtain ⟨b, off, e, hb, hc⟩ := h.at_ hn
    refine ⟨b, off, e, Nat.lt_of_lt_of_le hb k.size, fun i hi => ?_⟩
    obtain ⟨h1, h2, h3, h4⟩ := hc i hi
    exact ⟨k.cell hb h1, k.cell hb h2, k.cell hb h3, k.cell hb h4⟩⟩
theorem Syn.nil (w : World) (A : Option Addr) : Syn w A 0 [] := ⟨rfl, by omega, fun h => absurd h (by omega)⟩
section
variable {H : Type} {enc : TypeId × Value → H} {P : Program} {w : World} {base : Nat} {spare : Nat → Bool} {held : Bool}
/-- A throw's reading. -/
theorem throw_of_trod {t tn tb : TypeId} {g0 g1 : Field} {fuel : Nat} {u0 u1 : Value} {x : DataW H × List MemPlace} (he : P.underlying t = some (.struct #[g0, g1])) (hone : oneCellFields P #[g0, g1] = true)
    (h0 : g0.type = tn) (h1 : g1.type = tb) (htn : P.underlying tn = some (.int .i64)) (htb : P.underlying tb = some .bool) (h : DataW.trod enc P w base spare held fuel t [u0, u1] = some x) : ∃ q : Int × Bool, u0 = .int .i64 q.1 ∧ u1 = .bool q.2 := by
  obtain ⟨ys, n', hn', hy, hlen, hyl, hf⟩ := DataW.trod_struct he h
  obtain ⟨o0, k0⟩ := hone_of hone 0 g0 rfl
  obtain ⟨o1, k1⟩ := hone_of hone 1 g1 rfl
  match ys, hyl with
  | [y0, y1], _ =>
    have e0 := hf 0 g0 rfl
    have e1 := hf 1 g1 rfl
    rw [o0, k0, h0] at e0
    rw [o1, k1, h1] at e1
    obtain ⟨q, hq, _, hqw⟩ := DataW.trod_int (cs := [u0]) htn (by simpa using e0)
    obtain rfl : u0 = .int .i64 q := by simpa using hq
    obtain ⟨z, hz, _⟩ := DataW.trod_bool (cs := [u1]) htb (by simpa using e1)
    obtain rfl : u1 = .bool z := by simpa using hz
    exact ⟨(q, z), rfl, rfl⟩
/-- An argument's reading: a slice of structs of two throws. -/
theorem syn_of_trod {t e ts tn tb : TypeId} {f0 f1 g0 g1 : Field} {fuel : Nat} {v : Value} {x : DataW H × List MemPlace} (ht : P.underlying t = some (.slice e)) (he : P.underlying e = some (.struct #[f0, f1])) (hC : P.cellsOf e = 4)
    (a0 : f0.type = ts) (a1 : f1.type = ts) (p0 : f0.offset = 0) (p1 : f1.offset = 2) (hC2 : P.cellsOf ts = 2) (hs2 : P.underlying ts = some (.struct #[g0, g1])) (hone : oneCellFields P #[g0, g1] = true)
    (h0 : g0.type = tn) (h1 : g1.type = tb) (htn : P.underlying tn = some (.int .i64)) (htb : P.underlying tb = some .bool)
    (hs : ∀ b, spare b = true) (h : DataW.trod enc P w base spare held fuel t [v] = some x) : ∃ A n c ts, v = .slice A n c ∧ Syn w A n ts := by
  rcases open_slice ht h with ⟨hcs, hx⟩ | ⟨a, len, cap, m, n, D, Pl, hcs, hb, hl, hm, hmm, hx, hi⟩
  · obtain rfl : v = .slice none 0 0 := by simpa using hcs
    exact ⟨none, 0, 0, [], rfl, Syn.nil _ _⟩
  · obtain rfl : v = .slice (some a) len cap := by simpa using hcs
    rw [hs a.block] at hmm
    simp only [if_true] at hmm
    subst hmm
    unfold maxLen at hm
    have key : ∀ i, i < len → ∃ q : (Int × Bool) × (Int × Bool), (w.cell? (a.add (i * 4)) = some (.int .i64 q.1.1) ∧ w.cell? (a.add (i * 4 + 1)) = some (.bool q.1.2)) ∧ (w.cell? (a.add (i * 4 + 2)) = some (.int .i64 q.2.1) ∧ w.cell? (a.add (i * 4 + 3)) = some (.bool q.2.2)) := by
      intro i hil
      obtain ⟨cs', hc, ht'⟩ := hi i (by omega)
      rw [hC] at hc
      obtain ⟨ys, n', hn', hy, hlen, hyl, hf⟩ := DataW.trod_struct he ht'
      obtain ⟨_, hcl, hat⟩ := World.cells?_some hc
      match cs', hcl with
      | [u0, u1, u2, u3], _ =>
        match ys, hyl with
        | [y0, y1], _ =>
          have g0' := hf 0 f0 rfl
          have g1' := hf 1 f1 rfl
          rw [p0, a0, hC2] at g0'
          rw [p1, a1, hC2] at g1'
          obtain ⟨q0, rfl, rfl⟩ := throw_of_trod (u0 := u0) (u1 := u1) hs2 hone h0 h1 htn htb (by simpa using g0')
          obtain ⟨q1, rfl, rfl⟩ := throw_of_trod (u0 := u2) (u1 := u3) hs2 hone h0 h1 htn htb (by simpa using g1')
          have c0 := hat 0 (by omega)
          have c1 := hat 1 (by omega)
          have c2 := hat 2 (by omega)
          have c3 := hat 3 (by omega)
          rw [Go.Deep.add_add] at c0 c1 c2 c3
          exact ⟨(q0, q1), ⟨by simpa using c0, by simpa using c1⟩, ⟨by simpa using c2, by simpa using c3⟩⟩
    obtain ⟨f, hf⟩ := Go.Deep.choose_lt (α := (Int × Bool) × (Int × Bool)) key
    let g : Nat → Int × Bool := fun k => if k % 2 = 0 then (f (k / 2)).1 else (f (k / 2)).2
    have hg0 : ∀ i, g (2 * i) = (f i).1 := fun i => by
      show (if 2 * i % 2 = 0 then _ else _) = _
      rw [if_pos (by omega), show 2 * i / 2 = i by omega]
    have hg1 : ∀ i, g (2 * i + 1) = (f i).2 := fun i => by
      show (if (2 * i + 1) % 2 = 0 then _ else _) = _
      rw [if_neg (by omega), show (2 * i + 1) / 2 = i by omega]
    have htv : ∀ k, k < 2 * len → tv ((List.range (2 * len)).map g) k = (g k).1 := fun k hk => by unfold tv; simp [hk]
    have htp : ∀ k, k < 2 * len → tp ((List.range (2 * len)).map g) k = (g k).2 := fun k hk => by unfold tp; simp [hk]
    refine ⟨some a, len, _, (List.range (2 * len)).map g, rfl, by simp, by omega, fun hn => ?_⟩
    obtain ⟨b, off, spot⟩ := a
    have hspot : spot = none := by
      obtain ⟨⟨e1, _⟩, _⟩ := hf 0 hn
      simpa [Addr.add] using World.cell?_spot e1
    subst hspot
    have hadd : ∀ j, (⟨b, off, none⟩ : Addr).add j = ⟨b, off + j, none⟩ := fun j => by cases j <;> simp [Addr.add]
    have hlt : b < w.heap.size := by
      obtain ⟨⟨e1, _⟩, _⟩ := hf 0 hn
      rw [hadd] at e1
      exact cell_lt e1
    refine ⟨b, off, rfl, hlt, fun i hi => ?_⟩
    obtain ⟨⟨e1, e2⟩, e3, e4⟩ := hf i hi
    rw [hadd] at e1 e2 e3 e4
    rw [htv _ (by omega), htp _ (by omega), htv _ (by omega), htp _ (by omega), hg0, hg1]
    exact ⟨e1, by rw [Nat.add_assoc]; exact e2, by rw [Nat.add_assoc]; exact e3, by rw [Nat.add_assoc]; exact e4⟩
end
/-- A row of beats of the call's own. -/
structure RowS (w : World) (lo hi : Nat) (A : Option Addr) (n c : Nat) (ts : List (Int × Bool)) : Prop where
  len : ts.length = 2 * n
  row : ∃ cs, RowG w lo hi 102 4 A n c cs ∧ ∀ i, i < n → cs[i * 4]? = some (.int .i64 (tv ts (2 * i))) ∧ cs[i * 4 + 1]? = some (.bool (tp ts (2 * i))) ∧ cs[i * 4 + 2]? = some (.int .i64 (tv ts (2 * i + 1))) ∧ cs[i * 4 + 3]? = some (.bool (tp ts (2 * i + 1)))
section
variable {w w' : World} {lo lo' hi hi' : Nat} {A : Option Addr} {n c : Nat} {ts : List (Int × Bool)}
theorem RowS.ext (h : RowS w lo hi A n c ts) (k : Ext w w') : RowS w' lo hi A n c ts := by
  obtain ⟨cs, hr, hc⟩ := h.row
  exact ⟨h.len, cs, hr.ext k, hc⟩
theorem RowS.beside (h : RowS w lo hi A n c ts) {row : Option Nat} (k : w.grownBy w' row) (hr : ∀ g, row = some g → A.map (·.block) ≠ some g) : RowS w' lo hi A n c ts := by
  obtain ⟨cs, hr', hc⟩ := h.row
  exact ⟨h.len, cs, hr'.beside k hr, hc⟩
theorem RowS.held (h : RowS w lo hi A n c ts) (k : Kept lo' hi' w w') (hr : hi ≤ lo' ∨ hi' ≤ lo) : RowS w' lo hi A n c ts := by
  obtain ⟨cs, hr', hc⟩ := h.row
  exact ⟨h.len, cs, hr'.held k hr, hc⟩
theorem RowS.wide (h : RowS w lo hi A n c ts) (h1 : lo' ≤ lo) (h2 : hi ≤ hi') : RowS w lo' hi' A n c ts := by
  obtain ⟨cs, hr', hc⟩ := h.row
  exact ⟨h.len, cs, hr'.wide h1 h2, hc⟩
theorem RowS.far (h : RowS w lo hi A n c ts) {p : Addr} (hp : p.block < lo ∨ hi ≤ p.block) (v : Value) : RowS (w.setCell p v) lo hi A n c ts := by
  obtain ⟨cs, hr', hc⟩ := h.row
  exact ⟨h.len, cs, hr'.keep hp v, hc⟩
theorem RowS.row_bd (h : RowS w lo hi A n c ts) : ∀ g, A.map (·.block) = some g → lo ≤ g ∧ g < hi := by
  obtain ⟨cs, hr', hc⟩ := h.row
  exact hr'.row_bd
theorem RowS.nil (w : World) (lo hi : Nat) : RowS w lo hi none 0 0 [] := ⟨rfl, [], RowG.nil _ _ _ _ _, fun i h => absurd h (by omega)⟩
theorem RowS.syn (h : RowS w lo hi A n c ts) (hn : n ≤ 1000000000) : Syn w A n ts := by
  obtain ⟨cs, hr', hc⟩ := h.row
  refine ⟨h.len, by omega, fun h0 => ?_⟩
  obtain ⟨g, rfl, hg⟩ := hr'.form h0
  refine ⟨g, 0, rfl, hg, fun i hi => ?_⟩
  obtain ⟨h1, h2, h3, h4⟩ := hc i hi
  refine ⟨?_, ?_, ?_, ?_⟩
  · rw [Nat.zero_add, (hr'.cellAt (p := i * 4) (by omega)).1, h1]
  · rw [Nat.zero_add, (hr'.cellAt (p := i * 4 + 1) (by omega)).1, h2]
  · rw [Nat.zero_add, (hr'.cellAt (p := i * 4 + 2) (by omega)).1, h3]
  · rw [Nat.zero_add, (hr'.cellAt (p := i * 4 + 3) (by omega)).1, h4]
end
/-- The four cells of a beat, and those of the beats ahead of k. -/
def Sbt (cs : List Value) (ts : List (Int × Bool)) (k : Nat) : Prop := ∀ i, i < k → cs[i * 4]? = some (.int .i64 (tv ts (2 * i))) ∧ cs[i * 4 + 1]? = some (.bool (tp ts (2 * i))) ∧ cs[i * 4 + 2]? = some (.int .i64 (tv ts (2 * i + 1))) ∧ cs[i * 4 + 3]? = some (.bool (tp ts (2 * i + 1)))
theorem Sbt.put {cs : List Value} {ts : List (Int × Bool)} {k n : Nat} (h : Sbt cs ts k) (hk : k < n) (hl : cs.length = n * 4) {a b : Int} {p q : Bool} (h0 : tv ts (2 * k) = a) (h1 : tp ts (2 * k) = p) (h2 : tv ts (2 * k + 1) = b) (h3 : tp ts (2 * k + 1) = q) :
    Sbt ((((cs.set (k * 4) (.int .i64 a)).set (k * 4 + 1) (.bool p)).set (k * 4 + 2) (.int .i64 b)).set (k * 4 + 3) (.bool q)) ts (k + 1) := fun i hi => by
  by_cases e : i = k
  · subst e
    refine ⟨?_, ?_, ?_, ?_⟩
    · rw [List.getElem?_set_ne (by omega), List.getElem?_set_ne (by omega), List.getElem?_set_ne (by omega), List.getElem?_set_self (by omega), h0]
    · rw [List.getElem?_set_ne (by omega), List.getElem?_set_ne (by omega), List.getElem?_set_self (by rw [List.length_set]; omega), h1]
    · rw [List.getElem?_set_ne (by omega), List.getElem?_set_self (by rw [List.length_set, List.length_set]; omega), h2]
    · rw [List.getElem?_set_self (by rw [List.length_set, List.length_set, List.length_set]; omega), h3]
  · obtain ⟨e0, e1, e2, e3⟩ := h i (by omega)
    refine ⟨?_, ?_, ?_, ?_⟩
    · rw [List.getElem?_set_ne (by omega), List.getElem?_set_ne (by omega), List.getElem?_set_ne (by omega), List.getElem?_set_ne (by omega), e0]
    · rw [List.getElem?_set_ne (by omega), List.getElem?_set_ne (by omega), List.getElem?_set_ne (by omega), List.getElem?_set_ne (by omega), e1]
    · rw [List.getElem?_set_ne (by omega), List.getElem?_set_ne (by omega), List.getElem?_set_ne (by omega), List.getElem?_set_ne (by omega), e2]
    · rw [List.getElem?_set_ne (by omega), List.getElem?_set_ne (by omega), List.getElem?_set_ne (by omega), List.getElem?_set_ne (by omega), e3]
end Go.Proofs.YtbihbhdaenhdoaaGreat
