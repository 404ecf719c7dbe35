/- Routines: words for parts, an argument's reading, and contracts of the laws' copies, sizes and comparisons. No condition but the stated bounds. -/
import Derived.Test.YtinkaglngblddaaDoorRow
import Derived.Test.YtinkaglngblddaaDoorApi
import Derived.Test.YtinkaglngblddaaDoorToI
import Derived.Deep.Slices
import Derived.Deep.Fields
import Derived.ChangeSame
import Derived.Deep.RegionHeld3
namespace Go.Proofs.YtinkaglngblddaaDoor
set_option linter.unusedVariables false
set_option linter.unusedSimpArgs false
open Go.ChangeShapes Go.WideShapes Go.ChangeAt Go.RowKit Go.Joins Go.Deep

def pt (ps : List (List Int × Int)) (i : Nat) : List Int := (ps[i]?.map (·.1)).getD []
def tm (ps : List (List Int × Int)) (i : Nat) : Int := (ps[i]?.map (·.2)).getD 0
/-- The slice (A, n) of parts holds ps. -/
structure Parts (w : World) (A : Option Addr) (n : Nat) (ps : List (List Int × Int)) : Prop where
  len : ps.length = n
  small : n ≤ 9223372036854775807
  bds : ∀ i, i < n → -9223372036854775808 ≤ tm ps i ∧ tm ps i ≤ 9223372036854775807
  at_ : 0 < n → ∃ b off, A = some ⟨b, off, none⟩ ∧ b < w.heap.size ∧ ∀ i, i < n → ∃ (B : Option Addr) (m c : Nat), w.cell? ⟨b, off + i * 2, none⟩ = some (.slice B m c) ∧ w.cell? ⟨b, off + i * 2 + 1, none⟩ = some (.int .i64 (tm ps i)) ∧ Ints w B m (pt ps i)
theorem Parts.ext {w w' : World} {A : Option Addr} {n : Nat} {ps : List (List Int × Int)} (h : Parts w A n ps) (k : Ext w w') : Parts w' A n ps :=
  ⟨h.len, h.small, h.bds, fun hn => by
    obtain ⟨b, off, e, hb, hc⟩ := h.at_ hn
    refine ⟨b, off, e, Nat.lt_of_lt_of_le hb k.size, fun i hi => ?_⟩
    obtain ⟨B, m, c, h1, h2, h3⟩ := hc i hi
    exact ⟨B, m, c, k.cell hb h1, k.cell hb h2, h3.ext k⟩⟩
theorem parts_eq {ps qs : List (List Int × Int)} (hl : ps.length = qs.length) (h : ∀ i, i < ps.length → pt ps i = pt qs i ∧ tm ps i = tm qs i) : ps = qs := by
  apply List.ext_getElem hl
  intro i h1 h2
  have := h i h1
  unfold pt tm at this
  rw [List.getElem?_eq_getElem h1, List.getElem?_eq_getElem h2] at this
  exact Prod.ext this.1 this.2
section
variable {H : Type} {enc : TypeId × Value → H} {P : Program} {w : World} {base : Nat} {spare : Nat → Bool} {held : Bool}
theorem ints_of_trod {t e : TypeId} {fuel : Nat} {v : Value} {x : DataW H × List MemPlace} (ht : P.underlying t = some (.slice e)) (he : P.underlying e = some (.int .i64)) (hc : P.cellsOf e = 1)
    (hs : ∀ b, spare b = true) (h : DataW.trod enc P w base spare held fuel t [v] = some x) : ∃ B m c xs, v = .slice B m c ∧ Ints w B m xs := by
  rcases open_ints ht he hc h with ⟨hcs, hx⟩ | ⟨a, len, cap, zs, hcs, _, hl, hm, hz, hx, hcell, hwz⟩
  · obtain rfl : v = .slice none 0 0 := by simpa using hcs
    exact ⟨none, 0, 0, [], rfl, Ints.nil _ _⟩
  · obtain rfl : v = .slice (some a) len cap := by simpa using hcs
    rw [hs a.block] at hz
    simp only [if_true] at hz
    unfold maxLen at hm
    refine ⟨some a, len, cap, zs.take len, rfl, by simp; omega, by omega, fun x hx => bounds_i64 (hwz x (List.mem_of_mem_take hx)), fun hn => ?_⟩
    obtain ⟨b, off, rfl, hcc⟩ := ints_at hcell (by omega)
    refine ⟨b, off, rfl, cell_lt (hcc 0 (by omega)), fun i hi => ?_⟩
    rw [hcc i (by omega)]
    simp [hi]
/-- An argument's reading: a slice of structs of a slice of numbers and a number. -/
theorem parts_of_trod {t e ti tn te : TypeId} {f0 f1 : Field} {fuel : Nat} {v : Value} {x : DataW H × List MemPlace} (ht : P.underlying t = some (.slice e)) (he : P.underlying e = some (.struct #[f0, f1])) (hone : oneCellFields P #[f0, f1] = true) (hC : P.cellsOf e = 2)
    (h0 : f0.type = ti) (h1 : f1.type = tn) (hti : P.underlying ti = some (.slice te)) (hte : P.underlying te = some (.int .i64)) (hce : P.cellsOf te = 1) (htn : P.underlying tn = some (.int .i64))
    (hs : ∀ b, spare b = true) (h : DataW.trod enc P w base spare held fuel t [v] = some x) : ∃ A n c ps, v = .slice A n c ∧ Parts w A n ps := by
  rcases open_slice ht h with ⟨hcs, hx⟩ | ⟨a, len, cap, m, n, D, Pl, hcs, hb, hl, hm, hmm, hx, hi⟩
  · obtain rfl : v = .slice none 0 0 := by simpa using hcs
    exact ⟨none, 0, 0, [], rfl, ⟨rfl, by omega, fun i hi => absurd hi (by omega), fun hn => absurd hn (by omega)⟩⟩
  · obtain rfl : v = .slice (some a) len cap := by simpa using hcs
    rw [hs a.block] at hmm
    simp only [if_true] at hmm
    subst hmm
    unfold maxLen at hm
    have key : ∀ i, i < len → ∃ q : List Int × Int, -9223372036854775808 ≤ q.2 ∧ q.2 ≤ 9223372036854775807 ∧ ∃ (B : Option Addr) (m c : Nat), w.cell? (a.add (i * 2)) = some (.slice B m c) ∧ w.cell? (a.add (i * 2 + 1)) = some (.int .i64 q.2) ∧ Ints w B m q.1 := by
      intro i hil
      obtain ⟨cs', hc, ht'⟩ := hi i (by omega)
      rw [hC] at hc
      obtain ⟨ys, n', hn', hy, hlen, hyl, hf⟩ := DataW.trod_struct he ht'
      obtain ⟨_, hcl, hat⟩ := World.cells?_some hc
      obtain ⟨o0, k0⟩ := hone_of hone 0 f0 rfl
      obtain ⟨o1, k1⟩ := hone_of hone 1 f1 rfl
      match cs', hcl with
      | [u0, u1], _ =>
        match ys, hyl with
        | [y0, y1], _ =>
          have g0 := hf 0 f0 rfl
          have g1 := hf 1 f1 rfl
          rw [o0, k0, h0] at g0
          rw [o1, k1, h1] at g1
          obtain ⟨B, mm, c, zs, rfl, hz⟩ := ints_of_trod (v := u0) hti hte hce hs (by simpa using g0)
          obtain ⟨q, hq, _, hqw⟩ := DataW.trod_int (cs := [u1]) htn (by simpa using g1)
          obtain rfl : u1 = .int .i64 q := by simpa using hq
          have b := bounds_i64 hqw
          have c0 := hat 0 (by omega)
          have c1 := hat 1 (by omega)
          rw [Go.Deep.add_add] at c0 c1
          exact ⟨(zs, q), b.1, b.2, B, mm, c, by simpa using c0, by simpa using c1, hz⟩
    obtain ⟨f, hf⟩ := Go.Deep.choose_lt (α := List Int × Int) key
    refine ⟨some a, len, _, (List.range len).map f, rfl, by simp, by omega, fun i hi => ?_, fun hn => ?_⟩
    · have := hf i hi
      unfold tm
      simp [hi]
      exact ⟨this.1, this.2.1⟩
    · obtain ⟨b, off, spot⟩ := a
      have hspot : spot = none := by
        obtain ⟨_, _, B, m, c, e1, _⟩ := hf 0 hn
        simpa [Addr.add] using World.cell?_spot e1
      subst hspot
      have hlt : b < w.heap.size := by
        obtain ⟨_, _, B, m, c, e1, _⟩ := hf 0 hn
        rw [addr_add] at e1
        exact cell_lt e1
      refine ⟨b, off, rfl, hlt, fun i hi => ?_⟩
      obtain ⟨_, _, B, m, c, e1, e2, e3⟩ := hf i hi
      rw [addr_add] at e1 e2
      refine ⟨B, m, c, e1, ?_, ?_⟩
      · rw [Nat.add_assoc, e2]
        unfold tm
        simp [hi]
      · unfold pt
        simpa [hi] using e3
end
/-- A number of bytes that are left, or less than none. -/
theorem szInt64S_any (A : Option Addr) (m c : Nat) (r : Int) (w : World) (hm : m ≤ 9223372036854775807) (hr : 0 ≤ r ∧ r ≤ 1048576) :
    Calls Tryd.prog 74 #[.slice A m c, .int .i64 r] w fun e w' => e = .returned (.int .i64 (if r < m then -1 else r - m)) ∧ w = w' := by
  by_cases h : r < m
  · rw [if_pos h]
    go_enter Tryd.func74, Tryd.ntmps74
    go_wp2
    go_ret
    exact ⟨rfl, rfl⟩
  · rw [if_neg h]
    go_enter Tryd.func74, Tryd.ntmps74
    go_wp2
    go_ret
    exact ⟨rfl, rfl⟩
/-- What is left, and what that says. -/
def Left (p : Prop) (w : World) (e : Ending) (w' : World) : Prop := ∃ r : Int, e = .returned (.int .i64 r) ∧ (r < 0 ∨ 0 ≤ r ∧ r ≤ 1048576 ∧ p) ∧ Ext w w'
theorem szPart_any (B : Option Addr) (m c : Nat) (xs : List Int) (t r : Int) (w : World) (hI : Ints w B m xs) (hr : 0 ≤ r ∧ r ≤ 1048576) :
    Calls Tryd.prog 47 #[.agg #[.slice B m c, .int .i64 t], .int .i64 r] w (Left (m ≤ 1048576) w) := by
  have hsm := hI.small
  by_cases h : r < m
  · go_enter Tryd.func47, Tryd.ntmps47
    go_wp2_with (first | (go_at_call 74; (with_reducible refine (szInt64S_any _ _ _ _ _ hsm hr).mono ?_); rw [if_pos h]; rintro e w' ⟨rfl, rfl⟩))
    go_ret
    exact ⟨-1, rfl, .inl (by omega), (by with_reducible (repeat (first | exact Ext.refl _ | apply Ext.drewN | apply Ext.drew | apply Ext.alloc | (refine Ext.set ?_ (by first | (simp; done) | (simp; omega) | omega) _) | (refine Ext.trans ?_ (by assumption)))))⟩
  · go_enter Tryd.func47, Tryd.ntmps47
    go_wp2_with (first | (go_at_call 74; (with_reducible refine (szInt64S_any _ _ _ _ _ hsm hr).mono ?_); rw [if_neg h]; rintro e w' ⟨rfl, rfl⟩))
    go_ret
    exact ⟨r - m, rfl, .inr ⟨by omega, by omega, by omega⟩, (by with_reducible (repeat (first | exact Ext.refl _ | apply Ext.drewN | apply Ext.drew | apply Ext.alloc | (refine Ext.set ?_ (by first | (simp; done) | (simp; omega) | omega) _) | (refine Ext.trans ?_ (by assumption)))))⟩
end Go.Proofs.YtinkaglngblddaaDoor
