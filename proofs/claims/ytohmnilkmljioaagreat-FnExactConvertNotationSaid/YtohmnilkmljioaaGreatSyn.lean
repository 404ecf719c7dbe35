/- Beats of synchronous patterns: words for lists of beats, an argument's reading, and contracts of the laws' copies, sizes, comparisons and marks. No condition but the stated bounds. -/
import Derived.Test.YtohmnilkmljioaaGreatThr2
namespace Go.Proofs.YtohmnilkmljioaaGreat
set_option linter.unusedVariables false
set_option linter.unusedSimpArgs false
open Go.ChangeShapes Go.WideShapes Go.ChangeAt Go.RowKit Go.Joins Go.Deep

/-- The slice (A, n) of beats holds the throws ts, two a beat. -/
structure Syn (w : World) (A : Option Addr) (n : Nat) (ts : List (Int × Bool)) : Prop where
  len : ts.length = 2 * n
  small : n ≤ 9223372036854775807
  at_ : 0 < n → ∃ b off, A = some ⟨b, off, none⟩ ∧ b < w.heap.size ∧ ∀ i, i < n → w.cell? ⟨b, off + i * 4, none⟩ = some (.int .i64 (tv ts (2 * i))) ∧ w.cell? ⟨b, off + i * 4 + 1, none⟩ = some (.bool (tp ts (2 * i))) ∧ w.cell? ⟨b, off + i * 4 + 2, none⟩ = some (.int .i64 (tv ts (2 * i + 1))) ∧ w.cell? ⟨b, off + i * 4 + 3, none⟩ = some (.bool (tp ts (2 * i + 1)))
theorem Syn.ext {w w' : World} {A : Option Addr} {n : Nat} {ts : List (Int × Bool)} (h : Syn w A n ts) (k : Ext w w') : Syn w' A n ts :=
  ⟨h.len, h.small, fun hn => by
    obtain ⟨b, off, e, hb, hc⟩ := h.at_ hn
    refine ⟨b, off, e, Nat.lt_of_lt_of_le hb k.size, fun i hi => ?_⟩
    obtain ⟨h1, h2, h3, h4⟩ := hc i hi
    exact ⟨k.cell hb h1, k.cell hb h2, k.cell hb h3, k.cell hb h4⟩⟩
theorem Syn.nil (w : World) (A : Option Addr) : Syn w A 0 [] := ⟨rfl, by omega, fun h => absurd h (by omega)⟩
section
variable {H : Type} {enc : TypeId × Value → H} {P : Program} {w : World} {base : Nat} {spare : Nat → Bool} {held : Bool}
/-- A throw's reading. -/
theorem throw_of_trod {t tn tb : TypeId} {g0 g1 : Field} {fuel : Nat} {u0 u1 : Value} {x : DataW H × List MemPlace} (he : P.underlying t = some (.struct #[g0, g1])) (hone : oneCellFields P #[g0, g1] = true)
    (h0 : g0.type = tn) (h1 : g1.type = tb) (htn : P.underlying tn = some (.int .i64)) (htb : P.underlying tb = some .bool) (h : DataW.trod enc P w base spare held fuel t [u0, u1] = some x) : ∃ q : Int × Bool, u0 = .int .i64 q.1 ∧ u1 = .bool q.2 := by
  obtain ⟨ys, n', hn', hy, hlen, hyl, hf⟩ := DataW.trod_struct he h
  obtain ⟨o0, k0⟩ := hone_of hone 0 g0 rfl
  obtain ⟨o1, k1⟩ := hone_of hone 1 g1 rfl
  match ys, hyl with
  | [y0, y1], _ =>
    have e0 := hf 0 g0 rfl
    have e1 := hf 1 g1 rfl
    rw [o0, k0, h0] at e0
    rw [o1, k1, h1] at e1
    obtain ⟨q, hq, _, hqw⟩ := DataW.trod_int (cs := [u0]) htn (by simpa using e0)
    obtain rfl : u0 = .int .i64 q := by simpa using hq
    obtain ⟨z, hz, _⟩ := DataW.trod_bool (cs := [u1]) htb (by simpa using e1)
    obtain rfl : u1 = .bool z := by simpa using hz
    exact ⟨(q, z), rfl, rfl⟩
/-- An argument's reading: a slice of structs of two throws. -/
theorem syn_of_trod {t e ts tn tb : TypeId} {f0 f1 g0 g1 : Field} {fuel : Nat} {v : Value} {x : DataW H × List MemPlace} (ht : P.underlying t = some (.slice e)) (he : P.underlying e = some (.struct #[f0, f1])) (hC : P.cellsOf e = 4)
    (a0 : f0.type = ts) (a1 : f1.type = ts) (p0 : f0.offset = 0) (p1 : f1.offset = 2) (hC2 : P.cellsOf ts = 2) (hs2 : P.underlying ts = some (.struct #[g0, g1])) (hone : oneCellFields P #[g0, g1] = true)
    (h0 : g0.type = tn) (h1 : g1.type = tb) (htn : P.underlying tn = some (.int .i64)) (htb : P.underlying tb = some .bool)
    (hs : ∀ b, spare b = true) (h : DataW.trod enc P w base spare held fuel t [v] = some x) : ∃ A n c ts, v = .slice A n c ∧ Syn w A n ts := by
  rcases open_slice ht h with ⟨hcs, hx⟩ | ⟨a, len, cap, m, n, D, Pl, hcs, hb, hl, hm, hmm, hx, hi⟩
  · obtain rfl : v = .slice none 0 0 := by simpa using hcs
    exact ⟨none, 0, 0, [], rfl, Syn.nil _ _⟩
  · obtain rfl : v = .slice (some a) len cap := by simpa using hcs
    rw [hs a.block] at hmm
    simp only [if_true] at hmm
    subst hmm
    unfold maxLen at hm
    have key : ∀ i, i < len → ∃ q : (Int × Bool) × (Int × Bool), (w.cell? (a.add (i * 4)) = some (.int .i64 q.1.1) ∧ w.cell? (a.add (i * 4 + 1)) = some (.bool q.1.2)) ∧ (w.cell? (a.add (i * 4 + 2)) = some (.int .i64 q.2.1) ∧ w.cell? (a.add (i * 4 + 3)) = some (.bool q.2.2)) := by
      intro i hil
      obtain ⟨cs', hc, ht'⟩ := hi i (by omega)
      rw [hC] at hc
      obtain ⟨ys, n', hn', hy, hlen, hyl, hf⟩ := DataW.trod_struct he ht'
      obtain ⟨_, hcl, hat⟩ := World.cells?_some hc
      match cs', hcl with
      | [u0, u1, u2, u3], _ =>
        match ys, hyl with
        | [y0, y1], _ =>
          have g0' := hf 0 f0 rfl
          have g1' := hf 1 f1 rfl
          rw [p0, a0, hC2] at g0'
          rw [p1, a1, hC2] at g1'
          obtain ⟨q0, rfl, rfl⟩ := throw_of_trod (u0 := u0) (u1 := u1) hs2 hone h0 h1 htn htb (by simpa using g0')
          obtain ⟨q1, rfl, rfl⟩ := throw_of_trod (u0 := u2) (u1 := u3) hs2 hone h0 h1 htn htb (by simpa using g1')
          have c0 := hat 0 (by omega)
          have c1 := hat 1 (by omega)
          have c2 := hat 2 (by omega)
          have c3 := hat 3 (by omega)
          rw [Go.Deep.add_add] at c0 c1 c2 c3
          exact ⟨(q0, q1), ⟨by simpa using c0, by simpa using c1⟩, ⟨by simpa using c2, by simpa using c3⟩⟩
    obtain ⟨f, hf⟩ := Go.Deep.choose_lt (α := (Int × Bool) × (Int × Bool)) key
    let g : Nat → Int × Bool := fun k => if k % 2 = 0 then (f (k / 2)).1 else (f (k / 2)).2
    have hg0 : ∀ i, g (2 * i) = (f i).1 := fun i => by
      show (if 2 * i % 2 = 0 then _ else _) = _
      rw [if_pos (by omega), show 2 * i / 2 = i by omega]
    have hg1 : ∀ i, g (2 * i + 1) = (f i).2 := fun i => by
      show (if (2 * i + 1) % 2 = 0 then _ else _) = _
      rw [if_neg (by omega), show (2 * i + 1) / 2 = i by omega]
    have htv : ∀ k, k < 2 * len → tv ((List.range (2 * len)).map g) k = (g k).1 := fun k hk => by unfold tv; simp [hk]
    have htp : ∀ k, k < 2 * len → tp ((List.range (2 * len)).map g) k = (g k).2 := fun k hk => by unfold tp; simp [hk]
    refine ⟨some a, len, _, (List.range (2 * len)).map g, rfl, by simp, by omega, fun hn => ?_⟩
    obtain ⟨b, off, spot⟩ := a
    have hspot : spot = none := by
      obtain ⟨⟨e1, _⟩, _⟩ := hf 0 hn
      simpa [Addr.add] using World.cell?_spot e1
    subst hspot
    have hadd : ∀ j, (⟨b, off, none⟩ : Addr).add j = ⟨b, off + j, none⟩ := fun j => by cases j <;> simp [Addr.add]
    have hlt : b < w.heap.size := by
      obtain ⟨⟨e1, _⟩, _⟩ := hf 0 hn
      rw [hadd] at e1
      exact cell_lt e1
    refine ⟨b, off, rfl, hlt, fun i hi => ?_⟩
    obtain ⟨⟨e1, e2⟩, e3, e4⟩ := hf i hi
    rw [hadd] at e1 e2 e3 e4
    rw [htv _ (by omega), htp _ (by omega), htv _ (by omega), htp _ (by omega), hg0, hg1]
    exact ⟨e1, by rw [Nat.add_assoc]; exact e2, by rw [Nat.add_assoc]; exact e3, by rw [Nat.add_assoc]; exact e4⟩
end
/-- A row of beats of the call's own. -/
structure RowS (w : World) (lo hi : Nat) (A : Option Addr) (n c : Nat) (ts : List (Int × Bool)) : Prop where
  len : ts.length = 2 * n
  row : ∃ cs, RowG w lo hi 98 4 A n c cs ∧ ∀ i, i < n → cs[i * 4]? = some (.int .i64 (tv ts (2 * i))) ∧ cs[i * 4 + 1]? = some (.bool (tp ts (2 * i))) ∧ cs[i * 4 + 2]? = some (.int .i64 (tv ts (2 * i + 1))) ∧ cs[i * 4 + 3]? = some (.bool (tp ts (2 * i + 1)))
section
variable {w w' : World} {lo lo' hi hi' : Nat} {A : Option Addr} {n c : Nat} {ts : List (Int × Bool)}
theorem RowS.ext (h : RowS w lo hi A n c ts) (k : Ext w w') : RowS w' lo hi A n c ts := by
  obtain ⟨cs, hr, hc⟩ := h.row
  exact ⟨h.len, cs, hr.ext k, hc⟩
theorem RowS.beside (h : RowS w lo hi A n c ts) {row : Option Nat} (k : w.grownBy w' row) (hr : ∀ g, row = some g → A.map (·.block) ≠ some g) : RowS w' lo hi A n c ts := by
  obtain ⟨cs, hr', hc⟩ := h.row
  exact ⟨h.len, cs, hr'.beside k hr, hc⟩
theorem RowS.held (h : RowS w lo hi A n c ts) (k : Kept lo' hi' w w') (hr : hi ≤ lo' ∨ hi' ≤ lo) : RowS w' lo hi A n c ts := by
  obtain ⟨cs, hr', hc⟩ := h.row
  exact ⟨h.len, cs, hr'.held k hr, hc⟩
theorem RowS.wide (h : RowS w lo hi A n c ts) (h1 : lo' ≤ lo) (h2 : hi ≤ hi') : RowS w lo' hi' A n c ts := by
  obtain ⟨cs, hr', hc⟩ := h.row
  exact ⟨h.len, cs, hr'.wide h1 h2, hc⟩
theorem RowS.far (h : RowS w lo hi A n c ts) {p : Addr} (hp : p.block < lo ∨ hi ≤ p.block) (v : Value) : RowS (w.setCell p v) lo hi A n c ts := by
  obtain ⟨cs, hr', hc⟩ := h.row
  exact ⟨h.len, cs, hr'.keep hp v, hc⟩
theorem RowS.row_bd (h : RowS w lo hi A n c ts) : ∀ g, A.map (·.block) = some g → lo ≤ g ∧ g < hi := by
  obtain ⟨cs, hr', hc⟩ := h.row
  exact hr'.row_bd
theorem RowS.nil (w : World) (lo hi : Nat) : RowS w lo hi none 0 0 [] := ⟨rfl, [], RowG.nil _ _ _ _ _, fun i h => absurd h (by omega)⟩
theorem RowS.syn (h : RowS w lo hi A n c ts) (hn : n ≤ 1000000000) : Syn w A n ts := by
  obtain ⟨cs, hr', hc⟩ := h.row
  refine ⟨h.len, by omega, fun h0 => ?_⟩
  obtain ⟨g, rfl, hg⟩ := hr'.form h0
  refine ⟨g, 0, rfl, hg, fun i hi => ?_⟩
  obtain ⟨h1, h2, h3, h4⟩ := hc i hi
  refine ⟨?_, ?_, ?_, ?_⟩
  · rw [Nat.zero_add, (hr'.cellAt (p := i * 4) (by omega)).1, h1]
  · rw [Nat.zero_add, (hr'.cellAt (p := i * 4 + 1) (by omega)).1, h2]
  · rw [Nat.zero_add, (hr'.cellAt (p := i * 4 + 2) (by omega)).1, h3]
  · rw [Nat.zero_add, (hr'.cellAt (p := i * 4 + 3) (by omega)).1, h4]
end
/-- The four cells of a beat, and those of the beats ahead of k. -/
def Sbt (cs : List Value) (ts : List (Int × Bool)) (k : Nat) : Prop := ∀ i, i < k → cs[i * 4]? = some (.int .i64 (tv ts (2 * i))) ∧ cs[i * 4 + 1]? = some (.bool (tp ts (2 * i))) ∧ cs[i * 4 + 2]? = some (.int .i64 (tv ts (2 * i + 1))) ∧ cs[i * 4 + 3]? = some (.bool (tp ts (2 * i + 1)))
theorem Sbt.put {cs : List Value} {ts : List (Int × Bool)} {k n : Nat} (h : Sbt cs ts k) (hk : k < n) (hl : cs.length = n * 4) {a b : Int} {p q : Bool} (h0 : tv ts (2 * k) = a) (h1 : tp ts (2 * k) = p) (h2 : tv ts (2 * k + 1) = b) (h3 : tp ts (2 * k + 1) = q) :
    Sbt ((((cs.set (k * 4) (.int .i64 a)).set (k * 4 + 1) (.bool p)).set (k * 4 + 2) (.int .i64 b)).set (k * 4 + 3) (.bool q)) ts (k + 1) := fun i hi => by
  by_cases e : i = k
  · subst e
    refine ⟨?_, ?_, ?_, ?_⟩
    · rw [List.getElem?_set_ne (by omega), List.getElem?_set_ne (by omega), List.getElem?_set_ne (by omega), List.getElem?_set_self (by omega), h0]
    · rw [List.getElem?_set_ne (by omega), List.getElem?_set_ne (by omega), List.getElem?_set_self (by rw [List.length_set]; omega), h1]
    · rw [List.getElem?_set_ne (by omega), List.getElem?_set_self (by rw [List.length_set, List.length_set]; omega), h2]
    · rw [List.getElem?_set_self (by rw [List.length_set, List.length_set, List.length_set]; omega), h3]
  · obtain ⟨e0, e1, e2, e3⟩ := h i (by omega)
    refine ⟨?_, ?_, ?_, ?_⟩
    · rw [List.getElem?_set_ne (by omega), List.getElem?_set_ne (by omega), List.getElem?_set_ne (by omega), List.getElem?_set_ne (by omega), e0]
    · rw [List.getElem?_set_ne (by omega), List.getElem?_set_ne (by omega), List.getElem?_set_ne (by omega), List.getElem?_set_ne (by omega), e1]
    · rw [List.getElem?_set_ne (by omega), List.getElem?_set_ne (by omega), List.getElem?_set_ne (by omega), List.getElem?_set_ne (by omega), e2]
    · rw [List.getElem?_set_ne (by omega), List.getElem?_set_ne (by omega), List.getElem?_set_ne (by omega), List.getElem?_set_ne (by omega), e3]
theorem szSyncBeatS_any (A : Option Addr) (m c : Nat) (r : Int) (w : World) (hm : m ≤ 9223372036854775807) (hr : 0 ≤ r ∧ r ≤ 1048576) :
    Calls Tryz.prog 13 #[.slice A m c, .int .i64 r] w fun e w' => e = .returned (.int .i64 (if r < m then -1 else r - m)) ∧ w = w' := by
  by_cases h : r < m
  · rw [if_pos h]
    go_enter Tryz.func13, Tryz.ntmps13
    go_wp2
    go_ret
    exact ⟨rfl, rfl⟩
  · rw [if_neg h]
    go_enter Tryz.func13, Tryz.ntmps13
    go_wp2
    go_ret
    exact ⟨rfl, rfl⟩
theorem toSyncThrow_any (v : Int) (p : Bool) (w : World) :
    Calls Tryz.prog 98 #[.agg #[.int .i64 v, .bool p]] w fun e w' => e = .returned (.agg #[.int .i64 v, .bool p]) ∧ Ext w w' := by
  go_enter Tryz.func98, Tryz.ntmps98
  go_wp2
  exact bodyPost_ret (v := .agg #[.int .i64 v, .bool p]) (by simp [results, Tryz.results98, go_sem, *]) rfl ⟨rfl, (by with_reducible (repeat (first | exact Ext.refl _ | apply Ext.drewN | apply Ext.drew | apply Ext.alloc | (refine Ext.set ?_ (by first | (simp; done) | (simp; omega) | omega) _) | (refine Ext.trans ?_ (by assumption)))))⟩
set_option maxHeartbeats 1000000 in
theorem toSyncBeat_any (v : Int) (p : Bool) (u : Int) (q : Bool) (w : World) :
    Calls Tryz.prog 61 #[.agg #[.int .i64 v, .bool p, .int .i64 u, .bool q]] w fun e w' => e = .returned (.agg #[.int .i64 v, .bool p, .int .i64 u, .bool q]) ∧ Ext w w' := by
  go_enter Tryz.func61, Tryz.ntmps61
  go_wp2_with fail
  (with_reducible refine (toSyncThrow_any v p _).mono ?_)
  rintro e w1 ⟨rfl, hx1⟩
  have hz1 := hx1.size
  (try simp [World.setCell] at hz1)
  have q10 : w.heap.size < w1.heap.size := by omega
  have k10 : ∀ o, w1.cell? ⟨w.heap.size, o, none⟩ = _ := fun o => hx1.cells.1 _ o (by first | (simp [World.setCell]; done) | (simp [World.setCell]; omega) | omega)
  have f10 : ∀ o, w1.frozen? ⟨w.heap.size, o, none⟩ = _ := fun o => hx1.cells.2 _ o (by first | (simp [World.setCell]; done) | (simp [World.setCell]; omega) | omega)
  have q11 : w.heap.size + 1 < w1.heap.size := by omega
  have k11 : ∀ o, w1.cell? ⟨w.heap.size + 1, o, none⟩ = _ := fun o => hx1.cells.1 _ o (by first | (simp [World.setCell]; done) | (simp [World.setCell]; omega) | omega)
  have f11 : ∀ o, w1.frozen? ⟨w.heap.size + 1, o, none⟩ = _ := fun o => hx1.cells.2 _ o (by first | (simp [World.setCell]; done) | (simp [World.setCell]; omega) | omega)
  have q12 : w.heap.size + 1 + 1 < w1.heap.size := by omega
  have k12 : ∀ o, w1.cell? ⟨w.heap.size + 1 + 1, o, none⟩ = _ := fun o => hx1.cells.1 _ o (by first | (simp [World.setCell]; done) | (simp [World.setCell]; omega) | omega)
  have f12 : ∀ o, w1.frozen? ⟨w.heap.size + 1 + 1, o, none⟩ = _ := fun o => hx1.cells.2 _ o (by first | (simp [World.setCell]; done) | (simp [World.setCell]; omega) | omega)
  have hE1 : Ext w w1 := Ext.trans (by with_reducible (repeat (first | exact Ext.refl _ | apply Ext.drewN | apply Ext.drew | apply Ext.alloc | (refine Ext.set ?_ (by first | (simp; done) | (simp; omega) | omega) _) | (refine Ext.trans ?_ (by assumption))))) hx1
  clear hx1
  go_wp2_with fail
  (with_reducible refine (toSyncThrow_any u q _).mono ?_)
  rintro e w2 ⟨rfl, hx2⟩
  have hz2 := hx2.size
  (try simp [World.setCell] at hz2)
  have q20 : w.heap.size < w2.heap.size := by omega
  have k20 : ∀ o, w2.cell? ⟨w.heap.size, o, none⟩ = _ := fun o => hx2.cells.1 _ o (by first | (simp [World.setCell]; done) | (simp [World.setCell]; omega) | omega)
  have f20 : ∀ o, w2.frozen? ⟨w.heap.size, o, none⟩ = _ := fun o => hx2.cells.2 _ o (by first | (simp [World.setCell]; done) | (simp [World.setCell]; omega) | omega)
  have q21 : w.heap.size + 1 < w2.heap.size := by omega
  have k21 : ∀ o, w2.cell? ⟨w.heap.size + 1, o, none⟩ = _ := fun o => hx2.cells.1 _ o (by first | (simp [World.setCell]; done) | (simp [World.setCell]; omega) | omega)
  have f21 : ∀ o, w2.frozen? ⟨w.heap.size + 1, o, none⟩ = _ := fun o => hx2.cells.2 _ o (by first | (simp [World.setCell]; done) | (simp [World.setCell]; omega) | omega)
  have q22 : w.heap.size + 1 + 1 < w2.heap.size := by omega
  have k22 : ∀ o, w2.cell? ⟨w.heap.size + 1 + 1, o, none⟩ = _ := fun o => hx2.cells.1 _ o (by first | (simp [World.setCell]; done) | (simp [World.setCell]; omega) | omega)
  have f22 : ∀ o, w2.frozen? ⟨w.heap.size + 1 + 1, o, none⟩ = _ := fun o => hx2.cells.2 _ o (by first | (simp [World.setCell]; done) | (simp [World.setCell]; omega) | omega)
  have hE2 := Ext.trans (Ext.set (Ext.set hE1 (p := ⟨w.heap.size + 1 + 1, 0, none⟩) (by simp; omega) (.int .i64 v)) (p := ⟨w.heap.size + 1 + 1, 1, none⟩) (by simp; omega) (.bool p)) hx2
  clear hx2
  go_wp2
  exact bodyPost_ret (v := .agg #[.int .i64 v, .bool p, .int .i64 u, .bool q]) (by simp [results, Tryz.results61, go_sem, *]) rfl ⟨rfl, (by with_reducible (repeat (first | exact Ext.refl _ | apply Ext.drewN | apply Ext.drew | apply Ext.alloc | (refine Ext.set ?_ (by first | (simp; done) | (simp; omega) | omega) _) | (refine Ext.trans ?_ (by assumption)))))⟩
theorem infoBeat : (Tryz.prog.info? 98).map (fun i => (i.zero, i.size, i.bytes)) = some (some (.agg #[.int .i64 0, .bool false, .int .i64 0, .bool false]), 4, 32) := by kernel_rfl
theorem run_make_beats (n : Nat) (hn : n ≤ 1048576) (w : World) :
    (Instr.makeSlice 34 (.int .i64 (n : Int)) (.int .i64 (n : Int))).run Tryz.prog w = .ok (.slice (some ⟨w.heap.size, 0, none⟩) n n) (w.alloc (.cells (madeCells #[.int .i64 0, .bool false, .int .i64 0, .bool false] (n * 4)) 98)) := by
  obtain ⟨i, hi, hzz⟩ := Option.map_eq_some_iff.1 infoBeat
  simp only [Prod.mk.injEq] at hzz
  obtain ⟨hz, hs, hb⟩ := hzz
  have hr := run_make (P := Tryz.prog) w 34 98 i _ Tryz.underlying34 hi hz .i64 .i64 n n (by omega) (Int.le_refl _) (by rw [hb]; omega) (by omega)
  simp only [Int.toNat_natCast, hs] at hr
  exact hr
/-- What hands back a row of beats. -/
def RetS (w : World) (n : Nat) (ts : List (Int × Bool)) (e : Ending) (w' : World) : Prop := ∃ A c, e = .returned (.slice A n c) ∧ RowS w' w.heap.size w'.heap.size A n c ts ∧ Ext w w'
set_option maxHeartbeats 2000000 in
theorem toSyncBeatS_row (A : Option Addr) (n c : Nat) (ts : List (Int × Bool)) (w : World) (hI : Syn w A n ts) (hn : n ≤ 1048576) :
    Calls Tryz.prog 22 #[.slice A n c] w (RetS w n ts) := by
  have hmk := fun W => run_make_beats n hn W
  have hR0 : RowG (w.alloc (.cells (madeCells #[.int .i64 0, .bool false, .int .i64 0, .bool false] (n * 4)) 98)) w.heap.size (w.heap.size + 1) 98 4 (some ⟨w.heap.size, 0, none⟩) n n (madeCells #[.int .i64 0, .bool false, .int .i64 0, .bool false] (n * 4)).toList := by
    refine ⟨⟨by simp [size_madeCells], .inr ⟨w.heap.size, n, madeCells #[.int .i64 0, .bool false, .int .i64 0, .bool false] (n * 4), rfl, Nat.le_refl _, heap_alloc_new _ _, Nat.le_refl _, by unfold maxLen; omega, by simp [size_madeCells], ?_⟩⟩, fun a ha => by cases ha; simp⟩
    exact List.take_of_length_le (by simp [size_madeCells])
  go_enter Tryz.func22, Tryz.ntmps22
  go_wp2
  clear hmk
  go_loopw [4] (fun i wr => ∃ k : Nat, k ≤ n ∧ i = .int .i64 k ∧ Ext w wr ∧ w.heap.size < wr.heap.size ∧ ∃ cs, RowG wr w.heap.size (w.heap.size + 1) 98 4 (some ⟨w.heap.size, 0, none⟩) n n cs ∧ Sbt cs ts k) (fun i _ => n - (intOf i).toNat)
  case atStart => exact ⟨0, Nat.zero_le _, rfl, (Ext.refl _).alloc _, by simp, _, hR0, fun j h => absurd h (by omega)⟩
  case round =>
    obtain ⟨k, hk, rfl, hxe, hbig, cs, hrow, hcs⟩ := hrel
    have HCS := Lib.hid hcs
    clear hcs hR0
    by_cases hlt : k < n
    · obtain ⟨b, off, hA, hb, hcell⟩ := (hI.ext hxe).at_ (by omega)
      subst hA
      obtain ⟨c0, c1, c2, c3⟩ := hcell k hlt
      have hki : (k : Int) < n := by omega
      clear hcell
      obtain ⟨v, hv⟩ : ∃ v, tv ts (2 * k) = v := ⟨_, rfl⟩
      obtain ⟨p, hp⟩ : ∃ p, tp ts (2 * k) = p := ⟨_, rfl⟩
      obtain ⟨u, hu⟩ : ∃ u, tv ts (2 * k + 1) = u := ⟨_, rfl⟩
      obtain ⟨q, hq⟩ : ∃ q, tp ts (2 * k + 1) = q := ⟨_, rfl⟩
      rw [hv] at c0
      rw [hp] at c1
      rw [hu] at c2
      rw [hq] at c3
      have HV := Lib.hid hv
      have HP := Lib.hid hp
      have HU := Lib.hid hu
      have HQ := Lib.hid hq
      clear hv hp hu hq
      go_wp2_with fail
      (with_reducible refine (toSyncBeat_any v p u q _).mono ?_)
      rintro e w2 ⟨rfl, hx2⟩
      have hrow2 := hrow.ext hx2
      have hz2 := hx2.size
      (try simp at hz2)
      have hl := hrow2.len
      obtain ⟨d0, f0⟩ := hrow2.cellAt (p := k * 4) (by omega)
      obtain ⟨d1, f1⟩ := hrow2.cellAt (p := k * 4 + 1) (by omega)
      obtain ⟨d2, f2⟩ := hrow2.cellAt (p := k * 4 + 2) (by omega)
      obtain ⟨d3, f3⟩ := hrow2.cellAt (p := k * 4 + 3) (by omega)
      rw [List.getElem?_eq_getElem (by omega)] at d0 d1 d2 d3
      generalize cs[k * 4]'(by omega) = u0 at d0
      generalize cs[k * 4 + 1]'(by omega) = u1 at d1
      generalize cs[k * 4 + 2]'(by omega) = u2 at d2
      generalize cs[k * 4 + 3]'(by omega) = u3 at d3
      have hbg : w.heap.size < w2.heap.size := by omega
      have HN : Hid (RowG ((((w2.setCell ⟨w.heap.size, k * 4, none⟩ (.int .i64 v)).setCell ⟨w.heap.size, k * 4 + 1, none⟩ (.bool p)).setCell ⟨w.heap.size, k * 4 + 2, none⟩ (.int .i64 u)).setCell ⟨w.heap.size, k * 4 + 3, none⟩ (.bool q)) w.heap.size (w.heap.size + 1) 98 4 (some ⟨w.heap.size, 0, none⟩) n n ((((cs.set (k * 4) (.int .i64 v)).set (k * 4 + 1) (.bool p)).set (k * 4 + 2) (.int .i64 u)).set (k * 4 + 3) (.bool q)) ∧
          Sbt ((((cs.set (k * 4) (.int .i64 v)).set (k * 4 + 1) (.bool p)).set (k * 4 + 2) (.int .i64 u)).set (k * 4 + 3) (.bool q)) ts (k + 1)) :=
        ⟨(((hrow2.store _ _).store _ _).store _ _).store _ _, HCS.out.put hlt hl HV.out HP.out HU.out HQ.out⟩
      have hxn : Ext w ((((w2.setCell ⟨w.heap.size, k * 4, none⟩ (.int .i64 v)).setCell ⟨w.heap.size, k * 4 + 1, none⟩ (.bool p)).setCell ⟨w.heap.size, k * 4 + 2, none⟩ (.int .i64 u)).setCell ⟨w.heap.size, k * 4 + 3, none⟩ (.bool q)) := ((((hxe.trans (Ext.trans (by with_reducible (repeat (first | exact Ext.refl _ | apply Ext.drewN | apply Ext.drew | apply Ext.alloc | (refine Ext.set ?_ (by first | (simp; done) | (simp; omega) | omega) _) | (refine Ext.trans ?_ (by assumption))))) hx2)).set (Nat.le_refl _) _).set (Nat.le_refl _) _).set (Nat.le_refl _) _).set (Nat.le_refl _) _
      have HXN := Lib.hid hxn
      clear hxn hrow2 hrow
      go_wp2
      go_roundw
      case rel => exact ⟨k + 1, by omega, by go_num, HXN.out, by simpa [World.setCell] using hbg, _, HN.out.1, HN.out.2⟩
      case measure => simp [intOf]; omega
    · obtain rfl : k = n := by omega
      have HT : Hid (RetS w k ts (.returned (.slice (some ⟨w.heap.size, 0, none⟩) k k)) wr) := ⟨_, _, rfl, ⟨hI.len, cs, hrow.wide (Nat.le_refl _) (by omega), HCS.out⟩, hxe⟩
      go_wp2
      go_ret
      exact HT.out
theorem eqSyncBeat_same (v : Int) (p : Bool) (u : Int) (q : Bool) (w : World) :
    Calls Tryz.prog 79 #[.agg #[.int .i64 v, .bool p, .int .i64 u, .bool q], .agg #[.int .i64 v, .bool p, .int .i64 u, .bool q]] w (fun e w' => e = .returned (.bool true) ∧ Ext w w') := by
  go_enter Tryz.func79, Tryz.ntmps79
  go_wp2
  go_ret
  exact ⟨rfl, (by with_reducible (repeat (first | exact Ext.refl _ | apply Ext.drewN | apply Ext.drew | apply Ext.alloc | (refine Ext.set ?_ (by first | (simp; done) | (simp; omega) | omega) _) | (refine Ext.trans ?_ (by assumption)))))⟩
set_option maxHeartbeats 1000000 in
theorem eqSyncBeatS_same (A B : Option Addr) (n c d : Nat) (ts : List (Int × Bool)) (w : World) (hP : Syn w A n ts) (hQ : Syn w B n ts) :
    Calls Tryz.prog 34 #[.slice A n c, .slice B n d] w (fun e w' => e = .returned (.bool true) ∧ Ext w w') := by
  have hsm := hP.small
  go_enter Tryz.func34, Tryz.ntmps34
  go_wp2
  go_loopw [5] (fun i wr => ∃ k : Nat, k ≤ n ∧ i = .int .i64 k ∧ Ext w wr) (fun i _ => n - (intOf i).toNat)
  case atStart => exact ⟨0, Nat.zero_le _, rfl, Ext.refl _⟩
  case round =>
    obtain ⟨j, hj, rfl, hx⟩ := hrel
    by_cases hlt : j < n
    · obtain ⟨b, off, hA, hb, hcell⟩ := (hP.ext hx).at_ (by omega)
      obtain ⟨b2, off2, hB, hb2, hcell2⟩ := (hQ.ext hx).at_ (by omega)
      subst hA hB
      have i1 : (j : Int) < n := by omega
      obtain ⟨c0, c1, c2, c3⟩ := hcell j hlt
      obtain ⟨e0, e1, e2, e3⟩ := hcell2 j hlt
      clear hcell hcell2
      generalize tv ts (2 * j) = t at c0 e0
      generalize tp ts (2 * j) = q at c1 e1
      generalize tv ts (2 * j + 1) = u at c2 e2
      generalize tp ts (2 * j + 1) = p at c3 e3
      go_wp2
      go_region_held3 (fun wz => wz.cell? ⟨b, off + j * 4, none⟩ = some (.int .i64 t) ∧ wz.cell? ⟨b, off + j * 4 + 1, none⟩ = some (.bool q) ∧ wz.cell? ⟨b, off + j * 4 + 2, none⟩ = some (.int .i64 u) ∧ wz.cell? ⟨b, off + j * 4 + 3, none⟩ = some (.bool p) ∧ wz.cell? ⟨b2, off2 + j * 4, none⟩ = some (.int .i64 t) ∧ wz.cell? ⟨b2, off2 + j * 4 + 1, none⟩ = some (.bool q) ∧ wz.cell? ⟨b2, off2 + j * 4 + 2, none⟩ = some (.int .i64 u) ∧ wz.cell? ⟨b2, off2 + j * 4 + 3, none⟩ = some (.bool p)) (go_keep)
        (first | (go_at_call 79; (with_reducible refine (eqSyncBeat_same t q u p _).mono ?_); rintro e w1 ⟨rfl, hx1⟩; have hk1 : ∀ o, w1.cell? ⟨b, o, none⟩ = _ := fun o => hx1.cells.1 _ o (by first | (simp; done) | (simp; omega) | omega); have hk2 : ∀ o, w1.cell? ⟨b2, o, none⟩ = _ := fun o => hx1.cells.1 _ o (by first | (simp; done) | (simp; omega) | omega)))
      go_wp2
      go_roundw
      case rel => exact ⟨j + 1, by omega, by go_num, (by with_reducible (repeat (first | exact Ext.refl _ | apply Ext.drewN | apply Ext.drew | apply Ext.alloc | (refine Ext.set ?_ (by first | (simp; done) | (simp; omega) | omega) _) | (refine Ext.trans ?_ (by assumption)))))⟩
      case measure => simp [intOf]; omega
    · obtain rfl : j = n := by omega
      go_wp2
      go_ret
      exact ⟨rfl, (by with_reducible (repeat (first | exact Ext.refl _ | apply Ext.drewN | apply Ext.drew | apply Ext.alloc | (refine Ext.set ?_ (by first | (simp; done) | (simp; omega) | omega) _) | (refine Ext.trans ?_ (by assumption)))))⟩
set_option maxHeartbeats 1000000 in
theorem heldSyncBeatS_any (A : Option Addr) (n c : Nat) (k : Int) (w : World) (hI : Syn w A n (mkT k (2 * n))) (hk : 0 ≤ k ∧ k ≤ 2000000000000) (hn : n ≤ 1048576) :
    Calls Tryz.prog 42 #[.slice A n c, .int .i64 k] w fun e w' => e = .returned (.int .i64 (k + 4 * n)) ∧ Ext w w' := by
  go_enter Tryz.func42, Tryz.ntmps42
  go_wp2
  go_loopw [1, 5] (fun s i wr => ∃ j : Nat, j ≤ n ∧ i = .int .i64 j ∧ s = .int .i64 (k + 4 * j) ∧ Ext w wr) (fun _ i _ => n - (intOf i).toNat)
  case atStart => exact ⟨0, Nat.zero_le _, rfl, by go_num, Ext.refl _⟩
  case round =>
    obtain ⟨j, hj, rfl, rfl, hx⟩ := hrel
    by_cases hlt : j < n
    · obtain ⟨b, off, hA, hb, hcell⟩ := (hI.ext hx).at_ (by omega)
      subst hA
      have hji : (j : Int) < n := by omega
      obtain ⟨hc0, hc1, hc2, hc3⟩ := hcell j hlt
      rw [mkT_tv (by omega)] at hc0 hc2
      rw [mkT_tp (by omega)] at hc1 hc3
      rw [show k + 2 * ((2 * j : Nat) : Int) = k + 4 * j by omega] at hc0 hc1
      rw [show k + 2 * ((2 * j + 1 : Nat) : Int) = k + 4 * j + 1 + 1 by omega] at hc2 hc3
      clear hcell
      generalize hz : ((k + 4 * (j : Int) + 1) % 3 == 0) = z at hc1
      generalize hz2 : ((k + 4 * (j : Int) + 1 + 1 + 1) % 3 == 0) = z2 at hc3
      go_wp2
      go_roundw
      case rel => exact ⟨j + 1, by omega, by go_num, by go_num, hx⟩
      case measure => simp [intOf]; omega
    · obtain rfl : j = n := by omega
      go_wp2
      go_ret
      exact ⟨rfl, (by with_reducible (repeat (first | exact Ext.refl _ | apply Ext.drewN | apply Ext.drew | apply Ext.alloc | (refine Ext.set ?_ (by first | (simp; done) | (simp; omega) | omega) _) | (refine Ext.trans ?_ (by assumption)))))⟩
theorem mkT_beat {k : Int} {n i : Nat} (h : i < n) : tv (mkT k (2 * n)) (2 * i) = k + 4 * i ∧ tp (mkT k (2 * n)) (2 * i) = ((k + 4 * i + 1) % 3 == 0) ∧ tv (mkT k (2 * n)) (2 * i + 1) = k + 4 * i + 1 + 1 ∧ tp (mkT k (2 * n)) (2 * i + 1) = ((k + 4 * i + 1 + 1 + 1) % 3 == 0) := by
  rw [mkT_tv (by omega), mkT_tp (by omega), mkT_tv (by omega), mkT_tp (by omega)]
  rw [show k + 2 * ((2 * i : Nat) : Int) = k + 4 * i by omega, show k + 2 * ((2 * i + 1 : Nat) : Int) = k + 4 * i + 1 + 1 by omega]
  exact ⟨rfl, rfl, rfl, rfl⟩
/-- What a mark does. -/
def MarkdS (w : World) (lo hi : Nat) (A : Option Addr) (n c : Nat) (k : Int) (en : Ending) (w' : World) : Prop :=
  en = .returned (.int .i64 (k + 4 * n)) ∧ w.grownBy w' (A.map (·.block)) ∧ RowS w' lo hi A n c (mkT k (2 * n))
set_option maxHeartbeats 2000000 in
theorem markSyncBeatS_own (lo hi : Nat) (A : Option Addr) (n c : Nat) (k : Int) (ts : List (Int × Bool)) (w : World) (hO : RowS w lo hi A n c ts) (hk : 0 ≤ k ∧ k ≤ 2000000000000) (hn : n ≤ 1048576) :
    Calls Tryz.prog 38 #[.slice A n c, .int .i64 k] w (MarkdS w lo hi A n c k) := by
  obtain ⟨cs, hR, -⟩ := hO.row
  clear hO
  go_enter Tryz.func38, Tryz.ntmps38
  go_wp2
  go_loopw [1, 5] (fun s i wr => ∃ j : Nat, j ≤ n ∧ i = .int .i64 j ∧ s = .int .i64 (k + 4 * j) ∧ w.grownBy wr (A.map (·.block)) ∧ ∃ cs, RowG wr lo hi 98 4 A n c cs ∧ Sbt cs (mkT k (2 * n)) j) (fun _ i _ => n - (intOf i).toNat)
  case atStart => exact ⟨0, Nat.zero_le _, rfl, by go_num, World.grownBy.refl w _, _, hR, fun i h => absurd h (by omega)⟩
  case round =>
    obtain ⟨j, hj, rfl, rfl, hg, cs, hrow, hcs⟩ := hrel
    have HCS := Lib.hid hcs
    clear hcs hR
    by_cases hlt : j < n
    · obtain ⟨g, rfl, hgs⟩ := hrow.form (by omega)
      have hl := hrow.len
      obtain ⟨d0, f0⟩ := hrow.cellAt (p := j * 4) (by omega)
      obtain ⟨d1, f1⟩ := hrow.cellAt (p := j * 4 + 1) (by omega)
      obtain ⟨d2, f2⟩ := hrow.cellAt (p := j * 4 + 2) (by omega)
      obtain ⟨d3, f3⟩ := hrow.cellAt (p := j * 4 + 3) (by omega)
      rw [List.getElem?_eq_getElem (by omega)] at d0 d1 d2 d3
      generalize cs[j * 4]'(by omega) = u0 at d0
      generalize cs[j * 4 + 1]'(by omega) = u1 at d1
      generalize cs[j * 4 + 2]'(by omega) = u2 at d2
      generalize cs[j * 4 + 3]'(by omega) = u3 at d3
      have hji : (j : Int) < n := by omega
      have HG := Lib.hid hg
      have HROW := Lib.hid hrow
      have HMK := Lib.hid (mkT_beat (k := k) hlt)
      have HLL := Lib.hid hl
      clear hg hrow hl
      go_wp2
      go_roundw
      case rel =>
        refine ⟨j + 1, by omega, by go_num, by go_num, ?_, _, (((HROW.out.store _ _).store _ _).store _ _).store _ _, HCS.out.put hlt HLL.out HMK.out.1 HMK.out.2.1 HMK.out.2.2.1 HMK.out.2.2.2⟩
        exact only_setCell (p := ⟨g, j * 4 + 3, none⟩) (only_setCell (p := ⟨g, j * 4 + 2, none⟩) (only_setCell (p := ⟨g, j * 4 + 1, none⟩) (only_setCell (p := ⟨g, j * 4, none⟩) HG.out rfl _) rfl _) rfl _) rfl _
      case measure => simp [intOf]; omega
    · obtain rfl : j = n := by omega
      have HT : Hid (MarkdS w lo hi A j c k (.returned (.int .i64 (k + 4 * j))) wr) := ⟨rfl, hg, mkT_len _ _, cs, hrow, HCS.out⟩
      clear hg hrow
      go_wp2
      go_ret
      exact HT.out
end Go.Proofs.YtohmnilkmljioaaGreat
