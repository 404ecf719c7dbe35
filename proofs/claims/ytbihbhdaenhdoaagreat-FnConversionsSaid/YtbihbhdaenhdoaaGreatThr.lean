/- Throws of passing patterns: words for lists of throws, an argument's reading, and contracts of the laws' copies, sizes, comparisons and marks. No condition but the stated bounds. -/
import Derived.Test.YtbihbhdaenhdoaaGreatThw
import Derived.Deep.Slices
import Derived.Deep.Fields
import Derived.ChangeSame
import Derived.Deep.RegionHeld3
namespace Go.Proofs.YtbihbhdaenhdoaaGreat
set_option linter.unusedVariables false
set_option linter.unusedSimpArgs false
open Go.ChangeShapes Go.WideShapes Go.ChangeAt Go.RowKit Go.Joins Go.Deep

def tv (ts : List (Int × Bool)) (i : Nat) : Int := (ts[i]?.map (·.1)).getD 0
def tp (ts : List (Int × Bool)) (i : Nat) : Bool := (ts[i]?.map (·.2)).getD false
/-- The slice (A, n) of throws holds ts. -/
structure Thr (w : World) (A : Option Addr) (n : Nat) (ts : List (Int × Bool)) : Prop where
  len : ts.length = n
  small : n ≤ 9223372036854775807
  at_ : 0 < n → ∃ b off, A = some ⟨b, off, none⟩ ∧ b < w.heap.size ∧ ∀ i, i < n → w.cell? ⟨b, off + i * 2, none⟩ = some (.int .i64 (tv ts i)) ∧ w.cell? ⟨b, off + i * 2 + 1, none⟩ = some (.bool (tp ts i))
theorem Thr.ext {w w' : World} {A : Option Addr} {n : Nat} {ts : List (Int × Bool)} (h : Thr w A n ts) (k : Ext w w') : Thr w' A n ts :=
  ⟨h.len, h.small, fun hn => by
    obtain ⟨b, off, e, hb, hc⟩ := h.at_ hn
    refine ⟨b, off, e, Nat.lt_of_lt_of_le hb k.size, fun i hi => ?_⟩
    obtain ⟨h1, h2⟩ := hc i hi
    exact ⟨k.cell hb h1, k.cell hb h2⟩⟩
theorem Thr.nil (w : World) (A : Option Addr) : Thr w A 0 [] := ⟨rfl, by omega, fun h => absurd h (by omega)⟩
theorem thr_ext {ts us : List (Int × Bool)} (hl : ts.length = us.length) (h : ∀ i, i < ts.length → tv ts i = tv us i ∧ tp ts i = tp us i) : ts = us := by
  apply List.ext_getElem hl
  intro i h1 h2
  have := h i h1
  unfold tv tp at this
  rw [List.getElem?_eq_getElem h1, List.getElem?_eq_getElem h2] at this
  exact Prod.ext this.1 this.2
section
variable {H : Type} {enc : TypeId × Value → H} {P : Program} {w : World} {base : Nat} {spare : Nat → Bool} {held : Bool}
/-- An argument's reading: a slice of structs of a number and a truth value. -/
theorem thr_of_trod {t e tn tb : TypeId} {f0 f1 : Field} {fuel : Nat} {v : Value} {x : DataW H × List MemPlace} (ht : P.underlying t = some (.slice e)) (he : P.underlying e = some (.struct #[f0, f1])) (hone : oneCellFields P #[f0, f1] = true) (hC : P.cellsOf e = 2)
    (h0 : f0.type = tn) (h1 : f1.type = tb) (htn : P.underlying tn = some (.int .i64)) (htb : P.underlying tb = some .bool)
    (hs : ∀ b, spare b = true) (h : DataW.trod enc P w base spare held fuel t [v] = some x) : ∃ A n c ts, v = .slice A n c ∧ Thr w A n ts := by
  rcases open_slice ht h with ⟨hcs, hx⟩ | ⟨a, len, cap, m, n, D, Pl, hcs, hb, hl, hm, hmm, hx, hi⟩
  · obtain rfl : v = .slice none 0 0 := by simpa using hcs
    exact ⟨none, 0, 0, [], rfl, Thr.nil _ _⟩
  · obtain rfl : v = .slice (some a) len cap := by simpa using hcs
    rw [hs a.block] at hmm
    simp only [if_true] at hmm
    subst hmm
    unfold maxLen at hm
    have key : ∀ i, i < len → ∃ q : Int × Bool, w.cell? (a.add (i * 2)) = some (.int .i64 q.1) ∧ w.cell? (a.add (i * 2 + 1)) = some (.bool q.2) := by
      intro i hil
      obtain ⟨cs', hc, ht'⟩ := hi i (by omega)
      rw [hC] at hc
      obtain ⟨ys, n', hn', hy, hlen, hyl, hf⟩ := DataW.trod_struct he ht'
      obtain ⟨_, hcl, hat⟩ := World.cells?_some hc
      obtain ⟨o0, k0⟩ := hone_of hone 0 f0 rfl
      obtain ⟨o1, k1⟩ := hone_of hone 1 f1 rfl
      match cs', hcl with
      | [u0, u1], _ =>
        match ys, hyl with
        | [y0, y1], _ =>
          have g0 := hf 0 f0 rfl
          have g1 := hf 1 f1 rfl
          rw [o0, k0, h0] at g0
          rw [o1, k1, h1] at g1
          obtain ⟨q, hq, _, hqw⟩ := DataW.trod_int (cs := [u0]) htn (by simpa using g0)
          obtain rfl : u0 = .int .i64 q := by simpa using hq
          obtain ⟨z, hz, _⟩ := DataW.trod_bool (cs := [u1]) htb (by simpa using g1)
          obtain rfl : u1 = .bool z := by simpa using hz
          have c0 := hat 0 (by omega)
          have c1 := hat 1 (by omega)
          rw [Go.Deep.add_add] at c0 c1
          exact ⟨(q, z), by simpa using c0, by simpa using c1⟩
    obtain ⟨f, hf⟩ := Go.Deep.choose_lt (α := Int × Bool) key
    refine ⟨some a, len, _, (List.range len).map f, rfl, by simp, by omega, fun hn => ?_⟩
    obtain ⟨b, off, spot⟩ := a
    have hspot : spot = none := by
      obtain ⟨e1, _⟩ := hf 0 hn
      simpa [Addr.add] using World.cell?_spot e1
    subst hspot
    have hadd : ∀ j, (⟨b, off, none⟩ : Addr).add j = ⟨b, off + j, none⟩ := fun j => by cases j <;> simp [Addr.add]
    have hlt : b < w.heap.size := by
      obtain ⟨e1, _⟩ := hf 0 hn
      rw [hadd] at e1
      exact cell_lt e1
    refine ⟨b, off, rfl, hlt, fun i hi => ?_⟩
    obtain ⟨e1, e2⟩ := hf i hi
    rw [hadd] at e1 e2
    refine ⟨?_, ?_⟩
    · rw [e1]
      unfold tv
      simp [hi]
    · rw [Nat.add_assoc, e2]
      unfold tp
      simp [hi]
end
/-- A row of throws of the call's own. -/
structure RowT (w : World) (lo hi : Nat) (A : Option Addr) (n c : Nat) (ts : List (Int × Bool)) : Prop where
  len : ts.length = n
  row : ∃ cs, RowG w lo hi 86 2 A n c cs ∧ ∀ i, i < n → cs[i * 2]? = some (.int .i64 (tv ts i)) ∧ cs[i * 2 + 1]? = some (.bool (tp ts i))
section
variable {w w' : World} {lo lo' hi hi' : Nat} {A : Option Addr} {n c : Nat} {ts : List (Int × Bool)}
theorem RowT.ext (h : RowT w lo hi A n c ts) (k : Ext w w') : RowT w' lo hi A n c ts := by
  obtain ⟨cs, hr, hc⟩ := h.row
  exact ⟨h.len, cs, hr.ext k, hc⟩
theorem RowT.beside (h : RowT w lo hi A n c ts) {row : Option Nat} (k : w.grownBy w' row) (hr : ∀ g, row = some g → A.map (·.block) ≠ some g) : RowT w' lo hi A n c ts := by
  obtain ⟨cs, hr', hc⟩ := h.row
  exact ⟨h.len, cs, hr'.beside k hr, hc⟩
theorem RowT.held (h : RowT w lo hi A n c ts) (k : Kept lo' hi' w w') (hr : hi ≤ lo' ∨ hi' ≤ lo) : RowT w' lo hi A n c ts := by
  obtain ⟨cs, hr', hc⟩ := h.row
  exact ⟨h.len, cs, hr'.held k hr, hc⟩
theorem RowT.wide (h : RowT w lo hi A n c ts) (h1 : lo' ≤ lo) (h2 : hi ≤ hi') : RowT w lo' hi' A n c ts := by
  obtain ⟨cs, hr', hc⟩ := h.row
  exact ⟨h.len, cs, hr'.wide h1 h2, hc⟩
theorem RowT.far (h : RowT w lo hi A n c ts) {p : Addr} (hp : p.block < lo ∨ hi ≤ p.block) (v : Value) : RowT (w.setCell p v) lo hi A n c ts := by
  obtain ⟨cs, hr', hc⟩ := h.row
  exact ⟨h.len, cs, hr'.keep hp v, hc⟩
theorem RowT.row_bd (h : RowT w lo hi A n c ts) : ∀ g, A.map (·.block) = some g → lo ≤ g ∧ g < hi := by
  obtain ⟨cs, hr', hc⟩ := h.row
  exact hr'.row_bd
theorem RowT.nil (w : World) (lo hi : Nat) : RowT w lo hi none 0 0 [] := ⟨rfl, [], RowG.nil _ _ _ _ _, fun i h => absurd h (by omega)⟩
theorem RowT.thr (h : RowT w lo hi A n c ts) (hn : n ≤ 1000000000) : Thr w A n ts := by
  obtain ⟨cs, hr', hc⟩ := h.row
  refine ⟨h.len, by omega, fun h0 => ?_⟩
  obtain ⟨g, rfl, hg⟩ := hr'.form h0
  refine ⟨g, 0, rfl, hg, fun i hi => ?_⟩
  obtain ⟨h1, h2⟩ := hc i hi
  refine ⟨?_, ?_⟩
  · rw [Nat.zero_add, (hr'.cellAt (p := i * 2) (by omega)).1, h1]
  · rw [Nat.zero_add, (hr'.cellAt (p := i * 2 + 1) (by omega)).1, h2]
end
/-- Two rows of throws, in different blocks. -/
structure PassR (w : World) (lo hi : Nat) (A : Option Addr) (n c : Nat) (B : Option Addr) (m d : Nat) (ts us : List (Int × Bool)) : Prop where
  a : RowT w lo hi A n c ts
  b : RowT w lo hi B m d us
  ne : ∀ g, A.map (·.block) = some g → B.map (·.block) ≠ some g
section
variable {w w' : World} {lo lo' hi hi' : Nat} {A B : Option Addr} {n c m d : Nat} {ts us : List (Int × Bool)}
theorem PassR.ext (h : PassR w lo hi A n c B m d ts us) (k : Ext w w') : PassR w' lo hi A n c B m d ts us := ⟨h.a.ext k, h.b.ext k, h.ne⟩
theorem PassR.held (h : PassR w lo hi A n c B m d ts us) (k : Kept lo' hi' w w') (hr : hi ≤ lo' ∨ hi' ≤ lo) : PassR w' lo hi A n c B m d ts us := ⟨h.a.held k hr, h.b.held k hr, h.ne⟩
theorem PassR.wide (h : PassR w lo hi A n c B m d ts us) (h1 : lo' ≤ lo) (h2 : hi ≤ hi') : PassR w lo' hi' A n c B m d ts us := ⟨h.a.wide h1 h2, h.b.wide h1 h2, h.ne⟩
theorem PassR.swap (h : PassR w lo hi A n c B m d ts us) : PassR w lo hi B m d A n c us ts := ⟨h.b, h.a, fun g hg e => h.ne g e hg⟩
theorem PassR.nil (w : World) (lo hi : Nat) : PassR w lo hi none 0 0 none 0 0 [] [] := ⟨RowT.nil _ _ _, RowT.nil _ _ _, fun g h => by cases h⟩
end
end Go.Proofs.YtbihbhdaenhdoaaGreat
