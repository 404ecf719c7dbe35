/- Cpn Cp1 Cp2 in one text (a claim has at most 60 files). No condition but the stated bounds. -/
import Derived.Test.YtbihbhdaenhdoaaGreatNtt
import Derived.Test.YtbihbhdaenhdoaaGreatCpw
import Derived.Test.YtbihbhdaenhdoaaGreatThr5
import Derived.Deep.DeepCutAuto
namespace Go.Proofs.YtbihbhdaenhdoaaGreat
set_option linter.unusedVariables false
set_option linter.unusedSimpArgs false
open Go.ChangeShapes Go.WideShapes Go.ChangeAt Go.RowKit Go.Joins Go.Deep

theorem NBox.six {w : World} {g : Nat} {V : NV} (h : NBox w g V) : w.cell? ⟨g, 0, none⟩ = some (.int .i64 V.k) ∧ w.cell? ⟨g, 1, none⟩ = some (.slice V.A V.na V.ca) ∧ w.cell? ⟨g, 2, none⟩ = some (.slice V.B V.nb V.cb) ∧ w.cell? ⟨g, 3, none⟩ = some (.slice V.S V.ns V.cs) ∧ w.cell? ⟨g, 4, none⟩ = some (.slice V.P V.np V.cp) ∧ w.cell? ⟨g, 5, none⟩ = some (.slice V.Q V.nq V.cq) := ⟨h.c0, h.c1, h.c2, h.c3, h.c4, h.c5⟩
theorem NBox.move {w w' : World} {g : Nat} {V : NV} (h : NBox w g V) (hs : w.heap.size ≤ w'.heap.size) (k : ∀ o, w'.cell? ⟨g, o, none⟩ = w.cell? ⟨g, o, none⟩) : NBox w' g V :=
  ⟨Nat.lt_of_lt_of_le h.lt hs, (k 0).trans h.c0, (k 1).trans h.c1, (k 2).trans h.c2, (k 3).trans h.c3, (k 4).trans h.c4, (k 5).trans h.c5⟩
theorem Six.move {w w' : World} {g : Nat} (h : Six w g) (hs : w.heap.size ≤ w'.heap.size) (k : ∀ o, w'.cell? ⟨g, o, none⟩ = w.cell? ⟨g, o, none⟩ ∧ w'.frozen? ⟨g, o, none⟩ = w.frozen? ⟨g, o, none⟩) : Six w' g :=
  ⟨Nat.lt_of_lt_of_le h.lt hs, fun i hi => by obtain ⟨u, hu⟩ := h.c i hi; exact ⟨u, (k i).1.trans hu⟩, fun i => (k i).2.trans (h.f i)⟩
theorem six_of {W : World} {g : Nat} (hl : g < W.heap.size) (c0 : W.cell? ⟨g, 0, none⟩ = some (.int .i64 0)) (c1 : W.cell? ⟨g, 1, none⟩ = some (.slice none 0 0)) (c2 : W.cell? ⟨g, 2, none⟩ = some (.slice none 0 0)) (c3 : W.cell? ⟨g, 3, none⟩ = some (.slice none 0 0)) (c4 : W.cell? ⟨g, 4, none⟩ = some (.slice none 0 0)) (c5 : W.cell? ⟨g, 5, none⟩ = some (.slice none 0 0)) (f : ∀ i, W.frozen? ⟨g, i, none⟩ = false) : Six W g :=
  ⟨hl, fun i hi => by
    rcases (show i = 0 ∨ i = 1 ∨ i = 2 ∨ i = 3 ∨ i = 4 ∨ i = 5 by omega) with rfl | rfl | rfl | rfl | rfl | rfl
    · exact ⟨_, c0⟩
    · exact ⟨_, c1⟩
    · exact ⟨_, c2⟩
    · exact ⟨_, c3⟩
    · exact ⟨_, c4⟩
    · exact ⟨_, c5⟩, f⟩
/-- A notation is stored into a box. -/
def sto (W : World) (g : Nat) (V : NV) : World := ((((((W.setCell ⟨g, 0, none⟩ (.int .i64 V.k)).setCell ⟨g, 1, none⟩ (.slice V.A V.na V.ca)).setCell ⟨g, 2, none⟩ (.slice V.B V.nb V.cb)).setCell ⟨g, 3, none⟩ (.slice V.S V.ns V.cs)).setCell ⟨g, 4, none⟩ (.slice V.P V.np V.cp)).setCell ⟨g, 5, none⟩ (.slice V.Q V.nq V.cq))
theorem sto_size (W : World) (g : Nat) (V : NV) : (sto W g V).heap.size = W.heap.size := by simp [sto, World.setCell]
theorem sto_box {W : World} {g : Nat} (h : Six W g) (V : NV) : NBox (sto W g V) g V := h.store V
theorem sto_kept (W : World) (g : Nat) (V : NV) : Kept g (g + 1) W (sto W g V) := by
  unfold sto
  refine Kept.set ?_ (by simp) _
  refine Kept.set ?_ (by simp) _
  refine Kept.set ?_ (by simp) _
  refine Kept.set ?_ (by simp) _
  refine Kept.set ?_ (by simp) _
  refine Kept.set ?_ (by simp) _
  exact Kept.of_ext (Ext.refl _)
theorem sto_ext {w W : World} {g : Nat} (h : Ext w W) (hg : w.heap.size ≤ g) (V : NV) : Ext w (sto W g V) := by
  unfold sto
  refine Ext.set ?_ hg _
  refine Ext.set ?_ hg _
  refine Ext.set ?_ hg _
  refine Ext.set ?_ hg _
  refine Ext.set ?_ hg _
  refine Ext.set ?_ hg _
  exact h
theorem sto_six {W : World} {g : Nat} (h : Six W g) (g' : Nat) (V : NV) : Six (sto W g' V) g := by
  unfold sto
  exact (((((h.set _ _).set _ _).set _ _).set _ _).set _ _).set _ _
theorem sto_far {W : World} {g g' : Nat} {U : NV} (h : NBox W g U) (hne : g' ≠ g) (V : NV) : NBox (sto W g' V) g U := by
  unfold sto
  exact (((((h.far hne _).far hne _).far hne _).far hne _).far hne _).far hne _
/-- What the copy's own variable holds. -/
structure CpB (w wx : World) (U : NV) (s : Value) (g : Nat) (V : NV) (dp : List Int) (ds da db : List (Int × Bool)) : Prop where
  s : s = .pointer (some ⟨g, 0, none⟩)
  lo : w.heap.size + 2 ≤ g
  k : V.k = U.k
  na : V.na = U.na
  b : V.B = none ∧ V.nb = 0 ∧ V.cb = 0
  ns : V.ns = U.ns
  np : V.np = U.np
  nq : V.nq = U.nq
  box : NBox wx g V
  fr : Six wx g
  old : NBox wx w.heap.size U
  res : Six wx (w.heap.size + 1)
  X : Ext w wx
  rows : ∃ l h, w.heap.size + 2 ≤ l ∧ l ≤ h ∧ h ≤ wx.heap.size ∧ (g < l ∨ h ≤ g) ∧ RowW wx l h V.A V.na V.ca dp ∧ RowSW wx l h V.S V.ns V.cs ds ∧ PassRW wx l h V.P V.np V.cp V.Q V.nq V.cq da db
theorem CpB.of {w W : World} {U : NV} {g : Nat} {V : NV} {dp : List Int} {ds da db : List (Int × Bool)} (hlo : w.heap.size + 2 ≤ g) (hk : V.k = U.k) (hna : V.na = U.na) (hb : V.B = none ∧ V.nb = 0 ∧ V.cb = 0) (hns : V.ns = U.ns) (hnp : V.np = U.np) (hnq : V.nq = U.nq)
    (hsx : Six W g) (hold : NBox W w.heap.size U) (hres : Six W (w.heap.size + 1)) (hX : Ext w W) {l h : Nat} (h1 : w.heap.size + 2 ≤ l) (h2 : l ≤ h) (h3 : h ≤ W.heap.size) (h4 : g < l ∨ h ≤ g) (ra : RowW W l h V.A V.na V.ca dp) (rs : RowSW W l h V.S V.ns V.cs ds) (rp : PassRW W l h V.P V.np V.cp V.Q V.nq V.cq da db) :
    CpB w ((((((W.setCell ⟨g, 0, none⟩ (.int .i64 V.k)).setCell ⟨g, 1, none⟩ (.slice V.A V.na V.ca)).setCell ⟨g, 2, none⟩ (.slice V.B V.nb V.cb)).setCell ⟨g, 3, none⟩ (.slice V.S V.ns V.cs)).setCell ⟨g, 4, none⟩ (.slice V.P V.np V.cp)).setCell ⟨g, 5, none⟩ (.slice V.Q V.nq V.cq)) U (.pointer (some ⟨g, 0, none⟩)) g V dp ds da db :=
  show CpB w (sto W g V) U (.pointer (some ⟨g, 0, none⟩)) g V dp ds da db from ⟨rfl, hlo, hk, hna, hb, hns, hnp, hnq, sto_box hsx V, sto_six hsx g V, sto_far hold (by omega) V, sto_six hres g V, sto_ext hX (by omega) V, l, h, h1, h2, by rw [sto_size]; exact h3, h4, ra.held (sto_kept W g V) (by omega), rs.held (sto_kept W g V) (by omega), rp.held (sto_kept W g V) (by omega)⟩
theorem CpB.ofN {w W : World} {U : NV} {V : NV} {dp : List Int} {ds da db : List (Int × Bool)} (hlo : w.heap.size + 2 ≤ W.heap.size) (hk : V.k = U.k) (hna : V.na = U.na) (hb : V.B = none ∧ V.nb = 0 ∧ V.cb = 0) (hns : V.ns = U.ns) (hnp : V.np = U.np) (hnq : V.nq = U.nq)
    (hold : NBox W w.heap.size U) (hres : Six W (w.heap.size + 1)) (hX : Ext w W) {l h : Nat} (h1 : w.heap.size + 2 ≤ l) (h2 : l ≤ h) (h3 : h ≤ W.heap.size) (ra : RowW W l h V.A V.na V.ca dp) (rs : RowSW W l h V.S V.ns V.cs ds) (rp : PassRW W l h V.P V.np V.cp V.Q V.nq V.cq da db) :
    CpB w (W.alloc (.cells #[.int .i64 V.k, .slice V.A V.na V.ca, .slice V.B V.nb V.cb, .slice V.S V.ns V.cs, .slice V.P V.np V.cp, .slice V.Q V.nq V.cq] 33)) U (.pointer (some ⟨W.heap.size, 0, none⟩)) W.heap.size V dp ds da db :=
  have e := (Ext.refl W).alloc (.cells #[.int .i64 V.k, .slice V.A V.na V.ca, .slice V.B V.nb V.cb, .slice V.S V.ns V.cs, .slice V.P V.np V.cp, .slice V.Q V.nq V.cq] 33)
  ⟨rfl, hlo, hk, hna, hb, hns, hnp, hnq, NBox.new W V, Six.new W _ _ _ _ _ _ _, hold.ext e, hres.ext e, hX.trans e, l, h, h1, h2, by have := e.size; omega, .inr h3, ra.ext e, rs.ext e, rp.ext e⟩
theorem rowW_in {w : World} {lo hi : Nat} {A : Option Addr} {n c : Nat} {xs : List Int} (h : Row w lo hi 2 1 A n c xs) : RowW w lo hi A n c xs := .inl h
theorem rowW_no {w : World} {lo hi : Nat} {A : Option Addr} {c : Nat} : RowW w lo hi A 0 c [] := .inr ⟨rfl, rfl⟩
theorem rowSW_in {w : World} {lo hi : Nat} {A : Option Addr} {n c : Nat} {ts : List (Int × Bool)} (h : RowS w lo hi A n c ts) : RowSW w lo hi A n c ts := .inl h
theorem rowSW_no {w : World} {lo hi : Nat} {A : Option Addr} {c : Nat} : RowSW w lo hi A 0 c [] := .inr ⟨rfl, rfl⟩
theorem passRW_in {w : World} {lo hi : Nat} {A B : Option Addr} {n c m d : Nat} {ts us : List (Int × Bool)} (h : PassR w lo hi A n c B m d ts us) : PassRW w lo hi A n c B m d ts us := .inl h
theorem passRW_no {w : World} {lo hi : Nat} {A B : Option Addr} {c d : Nat} : PassRW w lo hi A 0 c B 0 d [] [] := .inr ⟨rfl, rfl, rfl, rfl⟩
theorem cpb_new {w W : World} {U : NV} {k : Int} {A1 : Option Addr} {n1 c1 : Nat} {S1 : Option Addr} {q1 e1 : Nat} {P1 : Option Addr} {p1 f1 : Nat} {Q1 : Option Addr} {r1 g1 : Nat} {dp : List Int} {ds da db : List (Int × Bool)} (hk : k = U.k) (hna : n1 = U.na) (hns : q1 = U.ns) (hnp : p1 = U.np) (hnq : r1 = U.nq) (hlo : w.heap.size + 2 ≤ W.heap.size)
    (hold : NBox W w.heap.size U) (hres : Six W (w.heap.size + 1)) (hX : Ext w W) (l h : Nat) (h1 : w.heap.size + 2 ≤ l) (h2 : l ≤ h) (h3 : h ≤ W.heap.size) (ra : RowW W l h A1 n1 c1 dp) (rs : RowSW W l h S1 q1 e1 ds) (rp : PassRW W l h P1 p1 f1 Q1 r1 g1 da db) :
    ∃ g V, CpB w (W.alloc (.cells #[.int .i64 k, .slice A1 n1 c1, .slice none 0 0, .slice S1 q1 e1, .slice P1 p1 f1, .slice Q1 r1 g1] 33)) U (.pointer (some ⟨W.heap.size, 0, none⟩)) g V dp ds da db :=
  ⟨_, _, CpB.ofN (V := ⟨k, A1, n1, c1, none, 0, 0, S1, q1, e1, P1, p1, f1, Q1, r1, g1⟩) hlo hk hna ⟨rfl, rfl, rfl⟩ hns hnp hnq hold hres hX (l := l) (h := h) h1 h2 h3 ra rs rp⟩
theorem cpb_set {w W : World} {U : NV} {g : Nat} {k : Int} {A1 : Option Addr} {n1 c1 : Nat} {S1 : Option Addr} {q1 e1 : Nat} {P1 : Option Addr} {p1 f1 : Nat} {Q1 : Option Addr} {r1 g1 : Nat} {dp : List Int} {ds da db : List (Int × Bool)} (hk : k = U.k) (hna : n1 = U.na) (hns : q1 = U.ns) (hnp : p1 = U.np) (hnq : r1 = U.nq) (hlo : w.heap.size + 2 ≤ g) (hgs : g < W.heap.size)
    (z0 : W.cell? ⟨g, 0, none⟩ = some (.int .i64 0)) (z1 : W.cell? ⟨g, 1, none⟩ = some (.slice none 0 0)) (z2 : W.cell? ⟨g, 2, none⟩ = some (.slice none 0 0)) (z3 : W.cell? ⟨g, 3, none⟩ = some (.slice none 0 0)) (z4 : W.cell? ⟨g, 4, none⟩ = some (.slice none 0 0)) (z5 : W.cell? ⟨g, 5, none⟩ = some (.slice none 0 0)) (zf : ∀ i, W.frozen? ⟨g, i, none⟩ = false)
    (hold : NBox W w.heap.size U) (hres : Six W (w.heap.size + 1)) (hX : Ext w W) (l h : Nat) (h1 : w.heap.size + 2 ≤ l) (h2 : l ≤ h) (h3 : h ≤ W.heap.size) (h4 : g < l ∨ h ≤ g) (ra : RowW W l h A1 n1 c1 dp) (rs : RowSW W l h S1 q1 e1 ds) (rp : PassRW W l h P1 p1 f1 Q1 r1 g1 da db) :
    ∃ g' V, CpB w ((((((W.setCell ⟨g, 0, none⟩ (.int .i64 k)).setCell ⟨g, 1, none⟩ (.slice A1 n1 c1)).setCell ⟨g, 2, none⟩ (.slice none 0 0)).setCell ⟨g, 3, none⟩ (.slice S1 q1 e1)).setCell ⟨g, 4, none⟩ (.slice P1 p1 f1)).setCell ⟨g, 5, none⟩ (.slice Q1 r1 g1)) U (.pointer (some ⟨g, 0, none⟩)) g' V dp ds da db :=
  ⟨_, _, CpB.of (V := ⟨k, A1, n1, c1, none, 0, 0, S1, q1, e1, P1, p1, f1, Q1, r1, g1⟩) hlo hk hna ⟨rfl, rfl, rfl⟩ hns hnp hnq (six_of hgs z0 z1 z2 z3 z4 z5 zf) hold hres hX (l := l) (h := h) h1 h2 h3 h4 ra rs rp⟩
/-- Within the loop over the beats. -/
structure LpN (w wx wr : World) (g : Nat) (V U : NV) (C : Option Addr) (k d : Nat) (L : List (List Int)) : Prop where
  X : Ext w wr
  sz : wx.heap.size ≤ wr.heap.size
  box : NBox wr g ⟨V.k, V.A, V.na, V.ca, C, k, d, V.S, V.ns, V.cs, V.P, V.np, V.cp, V.Q, V.nq, V.cq⟩
  fr : Six wr g
  old : NBox wr w.heap.size U
  res : Six wr (w.heap.size + 1)
  rows : LRow wr wx.heap.size wr.heap.size C k d L
theorem LpN.next {w wx wr W w2 : World} {g : Nat} {V U : NV} {C : Option Addr} {k d : Nat} {L L' : List (List Int)} (h : LpN w wx wr g V U C k d L) (hx : Ext wr W) (hz : W.heap.size ≤ w2.heap.size) (hk2 : ∀ b o, b < wx.heap.size → w2.cell? ⟨b, o, none⟩ = W.cell? ⟨b, o, none⟩ ∧ w2.frozen? ⟨b, o, none⟩ = W.frozen? ⟨b, o, none⟩)
    (hE : Ext w w2) (hg : g < wx.heap.size) (hb : w.heap.size + 1 < wx.heap.size) (hlo : w.heap.size + 2 ≤ g) {A2 : Option Addr} {n2 c2 : Nat} (R2 : LRow w2 wx.heap.size w2.heap.size A2 n2 c2 L') : LpN w wx (w2.setCell ⟨g, 2, none⟩ (.slice A2 n2 c2)) g V U A2 n2 c2 L' := by
  have hsz := h.sz
  have hs2 : wr.heap.size ≤ w2.heap.size := Nat.le_trans hx.size hz
  have mv : ∀ b, b < wx.heap.size → ∀ o, w2.cell? ⟨b, o, none⟩ = wr.cell? ⟨b, o, none⟩ ∧ w2.frozen? ⟨b, o, none⟩ = wr.frozen? ⟨b, o, none⟩ := fun b hb o =>
    ⟨(hk2 b o hb).1.trans (hx.cells.1 b o (by omega)), (hk2 b o hb).2.trans (hx.cells.2 b o (by omega))⟩
  have m1 := h.box.move hs2 (fun o => (mv g hg o).1)
  have o : ∀ i, 2 ≠ i → (⟨g, 2, none⟩ : Addr) ≠ ⟨g, i, none⟩ := fun i h => off_ne h
  refine ⟨hE.set (by show w.heap.size ≤ g; omega) _, by simpa [World.setCell] using Nat.le_trans hsz hs2, ?_, (h.fr.move hs2 (mv g hg)).set _ _, (h.old.move hs2 (fun o => (mv _ (by omega) o).1)).far (by omega) _, (h.res.move hs2 (mv _ hb)).set _ _, ?_⟩
  · exact ⟨by simpa [World.setCell] using m1.lt, cell_oth (o 0 (by omega)) m1.c0, cell_oth (o 1 (by omega)) m1.c1, cell_same m1.c2, cell_oth (o 3 (by omega)) m1.c3, cell_oth (o 4 (by omega)) m1.c4, cell_oth (o 5 (by omega)) m1.c5⟩
  · have := R2.far (p := ⟨g, 2, none⟩) (.inl hg) (.slice A2 n2 c2)
    simpa [World.setCell] using this
theorem LpN.done {w wx wr : World} {g : Nat} {V U : NV} {C : Option Addr} {k d : Nat} {L : List (List Int)} (h : LpN w wx wr g V U C k d L) (hb : w.heap.size + 2 ≤ wx.heap.size) (h1 : V.na = 0) (h2 : V.ns = 0) (h3 : V.np = 0) (h4 : V.nq = 0) :
    RetN w ⟨V.k, [], L, [], [], []⟩ (.returned (NV.mk V.k V.A V.na V.ca C k d V.S V.ns V.cs V.P V.np V.cp V.Q V.nq V.cq).val) (sto wr (w.heap.size + 1) (NV.mk V.k V.A V.na V.ca C k d V.S V.ns V.cs V.P V.np V.cp V.Q V.nq V.cq)) := by
  have hz := sto_size wr (w.heap.size + 1) (NV.mk V.k V.A V.na V.ca C k d V.S V.ns V.cs V.P V.np V.cp V.Q V.nq V.cq)
  have hx := h.X.size
  have hs := h.sz
  refine ⟨_, rfl, ⟨rfl, w.heap.size, w.heap.size, wx.heap.size, wr.heap.size, w.heap.size, w.heap.size, w.heap.size, w.heap.size, ?_, .inr ⟨h1, rfl⟩, .inl (h.rows.held (sto_kept _ _ _) (by omega)), .inr ⟨h2, rfl⟩, .inr ⟨h3, h4, rfl, rfl⟩⟩, sto_ext h.X (by omega) _⟩
  rw [hz]
  exact ⟨by omega, by omega, by omega, by omega, by omega, by omega, by omega, by omega, by omega, by omega⟩
theorem CpB.boxed {w wx : World} {U : NV} {s : Value} {g : Nat} {V : NV} {dp : List Int} {ds da db : List (Int × Bool)} (h : CpB w wx U s g V dp ds da db) : NBox (sto wx (w.heap.size + 1) V) (w.heap.size + 1) V := sto_box h.res V
theorem CpB.done1 {w wx : World} {U : NV} {s : Value} {g : Nat} {V : NV} {dp : List Int} (hc : CpB w wx U s g V dp [] [] []) : RetN w ⟨U.k, dp, [], [], [], []⟩ (.returned V.val) (sto wx (w.heap.size + 1) V) := by
  obtain ⟨l, h, h1, h2, h3, h4, ra, rs, rp⟩ := hc.rows
  have e1 : V.ns = 0 := by have := rs.len; simp at this; omega
  have e2 := rp.lens
  have e3 : V.np = 0 := by simpa using e2.1.symm
  have e4 : V.nq = 0 := by simpa using e2.2.symm
  have hz := sto_size wx (w.heap.size + 1) V
  have hx := hc.X.size
  refine ⟨V, rfl, ⟨hc.k, l, h, w.heap.size, w.heap.size, w.heap.size, w.heap.size, w.heap.size, w.heap.size, ?_, ra.held (sto_kept _ _ _) (by omega), .inr ⟨hc.b.2.1, rfl⟩, .inr ⟨e1, rfl⟩, .inr ⟨e3, e4, rfl, rfl⟩⟩, sto_ext hc.X (by omega) _⟩
  rw [hz]
  exact ⟨by omega, by omega, by omega, by omega, by omega, by omega, by omega, by omega, by omega, by omega⟩
theorem CpB.done3 {w wx : World} {U : NV} {s : Value} {g : Nat} {V : NV} {ds : List (Int × Bool)} (hc : CpB w wx U s g V [] ds [] []) : RetN w ⟨U.k, [], [], ds, [], []⟩ (.returned V.val) (sto wx (w.heap.size + 1) V) := by
  obtain ⟨l, h, h1, h2, h3, h4, ra, rs, rp⟩ := hc.rows
  have e1 : V.na = 0 := by have := ra.len; simp at this; omega
  have e2 := rp.lens
  have e3 : V.np = 0 := by simpa using e2.1.symm
  have e4 : V.nq = 0 := by simpa using e2.2.symm
  have hz := sto_size wx (w.heap.size + 1) V
  have hx := hc.X.size
  refine ⟨V, rfl, ⟨hc.k, w.heap.size, w.heap.size, w.heap.size, w.heap.size, l, h, w.heap.size, w.heap.size, ?_, .inr ⟨e1, rfl⟩, .inr ⟨hc.b.2.1, rfl⟩, rs.held (sto_kept _ _ _) (by omega), .inr ⟨e3, e4, rfl, rfl⟩⟩, sto_ext hc.X (by omega) _⟩
  rw [hz]
  exact ⟨by omega, by omega, by omega, by omega, by omega, by omega, by omega, by omega, by omega, by omega⟩
theorem CpB.done4 {w wx : World} {U : NV} {s : Value} {g : Nat} {V : NV} {da db : List (Int × Bool)} (hc : CpB w wx U s g V [] [] da db) : RetN w ⟨U.k, [], [], [], da, db⟩ (.returned V.val) (sto wx (w.heap.size + 1) V) := by
  obtain ⟨l, h, h1, h2, h3, h4, ra, rs, rp⟩ := hc.rows
  have e1 : V.na = 0 := by have := ra.len; simp at this; omega
  have e2 : V.ns = 0 := by have := rs.len; simp at this; omega
  have hz := sto_size wx (w.heap.size + 1) V
  have hx := hc.X.size
  refine ⟨V, rfl, ⟨hc.k, w.heap.size, w.heap.size, w.heap.size, w.heap.size, w.heap.size, w.heap.size, l, h, ?_, .inr ⟨e1, rfl⟩, .inr ⟨hc.b.2.1, rfl⟩, .inr ⟨e2, rfl⟩, rp.held (sto_kept _ _ _) (by omega)⟩, sto_ext hc.X (by omega) _⟩
  rw [hz]
  exact ⟨by omega, by omega, by omega, by omega, by omega, by omega, by omega, by omega, by omega, by omega⟩
end Go.Proofs.YtbihbhdaenhdoaaGreat

namespace Go.Proofs.YtbihbhdaenhdoaaGreat
set_option linter.unusedVariables false
set_option linter.unusedSimpArgs false
open Go.ChangeShapes Go.WideShapes Go.ChangeAt Go.RowKit Go.Joins Go.Deep

set_option maxRecDepth 100000 in
set_option maxHeartbeats 8000000 in
theorem copied_k1 (A B S P Q : Option Addr) (ca cb cs cp cq : Nat) (w : World) (na : Nat) (dp : List Int) (hp : Ints w A na dp) (hn : na ≤ 12) :
    Calls Tryz.prog 22 #[.agg #[.int .i64 1, .slice A na ca, .slice B 0 cb, .slice S 0 cs, .slice P 0 cp, .slice Q 0 cq]] w (RetN w ⟨1, dp, [], [], [], []⟩) := by
  obtain ⟨iS, hiS⟩ := iSyb
  have HBX : Hid (NBox ((w.alloc (.cells #[.int .i64 1, .slice A na ca, .slice B 0 cb, .slice S 0 cs, .slice P 0 cp, .slice Q 0 cq] 33)).alloc (.cells #[.int .i64 0, .slice none 0 0, .slice none 0 0, .slice none 0 0, .slice none 0 0, .slice none 0 0] 33)) w.heap.size ⟨1, A, na, ca, B, 0, cb, S, 0, cs, P, 0, cp, Q, 0, cq⟩) := (NBox.new w ⟨1, A, na, ca, B, 0, cb, S, 0, cs, P, 0, cp, Q, 0, cq⟩).ext ((Ext.refl _).alloc _)
  have HRX : Hid (Six ((w.alloc (.cells #[.int .i64 1, .slice A na ca, .slice B 0 cb, .slice S 0 cs, .slice P 0 cp, .slice Q 0 cq] 33)).alloc (.cells #[.int .i64 0, .slice none 0 0, .slice none 0 0, .slice none 0 0, .slice none 0 0, .slice none 0 0] 33)) (w.heap.size + 1)) := by
    have := Six.new (w.alloc (.cells #[.int .i64 1, .slice A na ca, .slice B 0 cb, .slice S 0 cs, .slice P 0 cp, .slice Q 0 cq] 33)) (.int .i64 0) (.slice none 0 0) (.slice none 0 0) (.slice none 0 0) (.slice none 0 0) (.slice none 0 0) 33
    rw [show (w.alloc (.cells #[.int .i64 1, .slice A na ca, .slice B 0 cb, .slice S 0 cs, .slice P 0 cp, .slice Q 0 cq] 33)).heap.size = w.heap.size + 1 by simp] at this
    exact this
  go_enter Tryz.func22, Tryz.ntmps22
  go_upto_region 1 with fail
  go_cut [3] (fun s3 wx => ∃ g V, CpB w wx ⟨1, A, na, ca, B, 0, cb, S, 0, cs, P, 0, cp, Q, 0, cq⟩ s3 g V dp [] [] [])
  case first =>
    go_region_held3 (fun wz => wz.cell? ⟨w.heap.size, 0, none⟩ = some (.int .i64 1) ∧ wz.cell? ⟨w.heap.size, 1, none⟩ = some (.slice A na ca) ∧ wz.cell? ⟨w.heap.size, 2, none⟩ = some (.slice B 0 cb) ∧ wz.cell? ⟨w.heap.size, 3, none⟩ = some (.slice S 0 cs) ∧ wz.cell? ⟨w.heap.size, 4, none⟩ = some (.slice P 0 cp) ∧ wz.cell? ⟨w.heap.size, 5, none⟩ = some (.slice Q 0 cq)) (exact (HBX.out.ext (show Ext ((w.alloc (.cells #[.int .i64 1, .slice A na ca, .slice B 0 cb, .slice S 0 cs, .slice P 0 cp, .slice Q 0 cq] 33)).alloc (.cells #[.int .i64 0, .slice none 0 0, .slice none 0 0, .slice none 0 0, .slice none 0 0, .slice none 0 0] 33)) _ from (by with_reducible (repeat (first | exact Ext.refl _ | apply Ext.drewN | apply Ext.drew | apply Ext.alloc | (refine Ext.set ?_ (by first | (simp; done) | (simp; omega) | omega) _) | (refine Ext.trans ?_ (by assumption))))))).six) (first | (go_at_call 57; (with_reducible refine (copyNumbers_any A na ca dp _ (hp.ext (by with_reducible (repeat (first | exact Ext.refl _ | apply Ext.drewN | apply Ext.drew | apply Ext.alloc | (refine Ext.set ?_ (by first | (simp; done) | (simp; omega) | omega) _) | (refine Ext.trans ?_ (by assumption)))))) (by omega)).mono ?_); rintro e wa ⟨Aa, ca', rfl, Oa⟩; have hxa := Oa.ext; have Ra := Oa.row; have hz_wa := hxa.size; (try simp at hz_wa); (try (have hq0_wa : w.heap.size + 1 < wa.heap.size := by omega)); (try (have hc0_wa : ∀ o, wa.cell? ⟨w.heap.size + 1, o, none⟩ = _ := fun o => hxa.cells.1 _ o (by first | (simp; done) | (simp; omega) | omega))); (try (have hf0_wa : ∀ o, wa.frozen? ⟨w.heap.size + 1, o, none⟩ = _ := fun o => hxa.cells.2 _ o (by first | (simp; done) | (simp; omega) | omega))); (try (have hq1_wa : w.heap.size + 1 + 1 < wa.heap.size := by omega)); (try (have hc1_wa : ∀ o, wa.cell? ⟨w.heap.size + 1 + 1, o, none⟩ = _ := fun o => hxa.cells.1 _ o (by first | (simp; done) | (simp; omega) | omega))); (try (have hf1_wa : ∀ o, wa.frozen? ⟨w.heap.size + 1 + 1, o, none⟩ = _ := fun o => hxa.cells.2 _ o (by first | (simp; done) | (simp; omega) | omega))); (try (have hq2_wa : w.heap.size + 1 + 1 + 1 < wa.heap.size := by omega)); (try (have hc2_wa : ∀ o, wa.cell? ⟨w.heap.size + 1 + 1 + 1, o, none⟩ = _ := fun o => hxa.cells.1 _ o (by first | (simp; done) | (simp; omega) | omega))); (try (have hf2_wa : ∀ o, wa.frozen? ⟨w.heap.size + 1 + 1 + 1, o, none⟩ = _ := fun o => hxa.cells.2 _ o (by first | (simp; done) | (simp; omega) | omega)))) | (refine stepE (by rfl) _ _ Tryz.underlying28 hiS (by rfl) (by rfl) (by rfl) ?_) | (go_at_call 58; (with_reducible refine (copied_none P Q cp cq _).mono ?_); rintro e wc ⟨Ac, cc, Bc, dc, rfl, hxc⟩; have hz_wc := hxc.size; (try simp at hz_wc); (try (have hq0_wc : w.heap.size + 1 < wc.heap.size := by omega)); (try (have hc0_wc : ∀ o, wc.cell? ⟨w.heap.size + 1, o, none⟩ = _ := fun o => hxc.cells.1 _ o (by first | (simp; done) | (simp; omega) | omega))); (try (have hf0_wc : ∀ o, wc.frozen? ⟨w.heap.size + 1, o, none⟩ = _ := fun o => hxc.cells.2 _ o (by first | (simp; done) | (simp; omega) | omega))); (try (have hq1_wc : w.heap.size + 1 + 1 < wc.heap.size := by omega)); (try (have hc1_wc : ∀ o, wc.cell? ⟨w.heap.size + 1 + 1, o, none⟩ = _ := fun o => hxc.cells.1 _ o (by first | (simp; done) | (simp; omega) | omega))); (try (have hf1_wc : ∀ o, wc.frozen? ⟨w.heap.size + 1 + 1, o, none⟩ = _ := fun o => hxc.cells.2 _ o (by first | (simp; done) | (simp; omega) | omega))); (try (have hq2_wc : w.heap.size + 1 + 1 + 1 < wc.heap.size := by omega)); (try (have hc2_wc : ∀ o, wc.cell? ⟨w.heap.size + 1 + 1 + 1, o, none⟩ = _ := fun o => hxc.cells.1 _ o (by first | (simp; done) | (simp; omega) | omega))); (try (have hf2_wc : ∀ o, wc.frozen? ⟨w.heap.size + 1 + 1 + 1, o, none⟩ = _ := fun o => hxc.cells.2 _ o (by first | (simp; done) | (simp; omega) | omega))); (try (have hq3_wc : wa.heap.size < wc.heap.size := by omega)); (try (have hc3_wc : ∀ o, wc.cell? ⟨wa.heap.size, o, none⟩ = _ := fun o => hxc.cells.1 _ o (by first | (simp; done) | (simp; omega) | omega))); (try (have hf3_wc : ∀ o, wc.frozen? ⟨wa.heap.size, o, none⟩ = _ := fun o => hxc.cells.2 _ o (by first | (simp; done) | (simp; omega) | omega))); (try (have hq4_wc : wa.heap.size + 1 < wc.heap.size := by omega)); (try (have hc4_wc : ∀ o, wc.cell? ⟨wa.heap.size + 1, o, none⟩ = _ := fun o => hxc.cells.1 _ o (by first | (simp; done) | (simp; omega) | omega))); (try (have hf4_wc : ∀ o, wc.frozen? ⟨wa.heap.size + 1, o, none⟩ = _ := fun o => hxc.cells.2 _ o (by first | (simp; done) | (simp; omega) | omega))); (try (have hq5_wc : wa.heap.size + 1 + 1 < wc.heap.size := by omega)); (try (have hc5_wc : ∀ o, wc.cell? ⟨wa.heap.size + 1 + 1, o, none⟩ = _ := fun o => hxc.cells.1 _ o (by first | (simp; done) | (simp; omega) | omega))); (try (have hf5_wc : ∀ o, wc.frozen? ⟨wa.heap.size + 1 + 1, o, none⟩ = _ := fun o => hxc.cells.2 _ o (by first | (simp; done) | (simp; omega) | omega)))))
    all_goals (go_wp2_with fail; go_meet)
    all_goals first
      | (with_reducible refine cpb_new rfl rfl rfl rfl rfl ?_ ?_ ?_ ?_ _ _ ?_ ?_ ?_ (rowW_in (Ra.ext ?_)) rowSW_no passRW_no)
      | (with_reducible refine cpb_set rfl rfl rfl rfl rfl ?_ ?_ ?_ ?_ ?_ ?_ ?_ ?_ (fun i => ?_) ?_ ?_ ?_ _ _ ?_ ?_ ?_ ?_ (rowW_in (Ra.ext ?_)) rowSW_no passRW_no)
    all_goals first
      | (simp; done)
      | (simp; omega)
      | omega
      | (go_simp; done)
      | exact HBX.out.ext (by with_reducible (repeat (first | exact Ext.refl _ | apply Ext.drewN | apply Ext.drew | apply Ext.alloc | (refine Ext.set ?_ (by first | (simp; done) | (simp; omega) | omega) _) | (refine Ext.trans ?_ (by assumption)))))
      | exact HRX.out.ext (by with_reducible (repeat (first | exact Ext.refl _ | apply Ext.drewN | apply Ext.drew | apply Ext.alloc | (refine Ext.set ?_ (by first | (simp; done) | (simp; omega) | omega) _) | (refine Ext.trans ?_ (by assumption)))))
      | exact (by with_reducible (repeat (first | exact Ext.refl _ | apply Ext.drewN | apply Ext.drew | apply Ext.alloc | (refine Ext.set ?_ (by first | (simp; done) | (simp; omega) | omega) _) | (refine Ext.trans ?_ (by assumption)))))
      | (left; simp; done)
      | (left; simp; omega)
      | (right; simp; done)
      | (right; simp; omega)
      | trace_state
  case rest =>
    obtain ⟨g, V, hcut⟩ := hcut
    have HNB := Lib.hid hcut.boxed
    have HRN := Lib.hid hcut.done1
    obtain ⟨vk, A1, n1, c1, B1, m1, d1, S1, q1, e1, P1, p1, f1, Q1, r1, g1⟩ := V
    obtain ⟨hs3, hlo, hk, hna, ⟨hb1, hb2, hb3⟩, hns, hnp, hnq, hbox, hfr, hold, hres, hX, l, h, hl1, hl2, hl3, hl4, ra, rs, rp⟩ := hcut
    dsimp only at *
    subst hs3 hk hna hb1 hb2 hb3 hns hnp hnq
    obtain ⟨ho1, h00, h01, h02, h03, h04, h05⟩ := hold
    obtain ⟨hg1, h10, h11, h12, h13, h14, h15⟩ := hbox
    dsimp only at *
    have hf := hfr.f
    have hfr2 := hres.f
    obtain ⟨u0, rr0⟩ := hres.c 0 (by omega)
    obtain ⟨u1, rr1⟩ := hres.c 1 (by omega)
    obtain ⟨u2, rr2⟩ := hres.c 2 (by omega)
    obtain ⟨u3, rr3⟩ := hres.c 3 (by omega)
    obtain ⟨u4, rr4⟩ := hres.c 4 (by omega)
    obtain ⟨u5, rr5⟩ := hres.c 5 (by omega)
    have hrl := hres.lt
    clear ra rs rp hfr hres
    go_wp2
    go_loop [23] (fun i => i = .int .i64 0) (fun _ => 0)
    case atStart => rfl
    case round =>
      obtain rfl := hrel
      go_wp2
      refine bodyPost_ret (v := (⟨1, A1, n1, c1, none, 0, 0, S1, 0, e1, P1, 0, f1, Q1, 0, g1⟩ : NV).val) ?_ ?_ ?_
      · exact results_not rfl rfl HNB.out
      · rfl
      · exact HRN.out
end Go.Proofs.YtbihbhdaenhdoaaGreat

namespace Go.Proofs.YtbihbhdaenhdoaaGreat
set_option linter.unusedVariables false
set_option linter.unusedSimpArgs false
open Go.ChangeShapes Go.WideShapes Go.ChangeAt Go.RowKit Go.Joins Go.Deep

set_option maxRecDepth 100000 in
set_option maxHeartbeats 8000000 in
theorem copied_k2 (A B S P Q : Option Addr) (ca cb cs cp cq : Nat) (w : World) (nb : Nat) (dm : List (List Int)) (hm : Lists w B nb dm) (hn : nb ≤ 12) (hL : ∀ i, i < nb → (ll dm i).length ≤ 1000000) :
    Calls Tryz.prog 22 #[.agg #[.int .i64 2, .slice A 0 ca, .slice B nb cb, .slice S 0 cs, .slice P 0 cp, .slice Q 0 cq]] w (RetN w ⟨2, [], dm, [], [], []⟩) := by
  obtain ⟨iS, hiS⟩ := iSyb
  have HBX : Hid (NBox ((w.alloc (.cells #[.int .i64 2, .slice A 0 ca, .slice B nb cb, .slice S 0 cs, .slice P 0 cp, .slice Q 0 cq] 33)).alloc (.cells #[.int .i64 0, .slice none 0 0, .slice none 0 0, .slice none 0 0, .slice none 0 0, .slice none 0 0] 33)) w.heap.size ⟨2, A, 0, ca, B, nb, cb, S, 0, cs, P, 0, cp, Q, 0, cq⟩) := (NBox.new w ⟨2, A, 0, ca, B, nb, cb, S, 0, cs, P, 0, cp, Q, 0, cq⟩).ext ((Ext.refl _).alloc _)
  have HRX : Hid (Six ((w.alloc (.cells #[.int .i64 2, .slice A 0 ca, .slice B nb cb, .slice S 0 cs, .slice P 0 cp, .slice Q 0 cq] 33)).alloc (.cells #[.int .i64 0, .slice none 0 0, .slice none 0 0, .slice none 0 0, .slice none 0 0, .slice none 0 0] 33)) (w.heap.size + 1)) := by
    have := Six.new (w.alloc (.cells #[.int .i64 2, .slice A 0 ca, .slice B nb cb, .slice S 0 cs, .slice P 0 cp, .slice Q 0 cq] 33)) (.int .i64 0) (.slice none 0 0) (.slice none 0 0) (.slice none 0 0) (.slice none 0 0) (.slice none 0 0) 33
    rw [show (w.alloc (.cells #[.int .i64 2, .slice A 0 ca, .slice B nb cb, .slice S 0 cs, .slice P 0 cp, .slice Q 0 cq] 33)).heap.size = w.heap.size + 1 by simp] at this
    exact this
  go_enter Tryz.func22, Tryz.ntmps22
  go_upto_region 1 with fail
  go_cut [3] (fun s3 wx => ∃ g V, CpB w wx ⟨2, A, 0, ca, B, nb, cb, S, 0, cs, P, 0, cp, Q, 0, cq⟩ s3 g V [] [] [] [])
  case first =>
    go_region_held3 (fun wz => wz.cell? ⟨w.heap.size, 0, none⟩ = some (.int .i64 2) ∧ wz.cell? ⟨w.heap.size, 1, none⟩ = some (.slice A 0 ca) ∧ wz.cell? ⟨w.heap.size, 2, none⟩ = some (.slice B nb cb) ∧ wz.cell? ⟨w.heap.size, 3, none⟩ = some (.slice S 0 cs) ∧ wz.cell? ⟨w.heap.size, 4, none⟩ = some (.slice P 0 cp) ∧ wz.cell? ⟨w.heap.size, 5, none⟩ = some (.slice Q 0 cq)) (exact (HBX.out.ext (show Ext ((w.alloc (.cells #[.int .i64 2, .slice A 0 ca, .slice B nb cb, .slice S 0 cs, .slice P 0 cp, .slice Q 0 cq] 33)).alloc (.cells #[.int .i64 0, .slice none 0 0, .slice none 0 0, .slice none 0 0, .slice none 0 0, .slice none 0 0] 33)) _ from (by with_reducible (repeat (first | exact Ext.refl _ | apply Ext.drewN | apply Ext.drew | apply Ext.alloc | (refine Ext.set ?_ (by first | (simp; done) | (simp; omega) | omega) _) | (refine Ext.trans ?_ (by assumption))))))).six) (first | (go_at_call 57; (with_reducible refine (copyNumbers_any A 0 ca [] _ (Ints.nil _ _) (by omega)).mono ?_); rintro e wa ⟨Aa, ca', rfl, Oa⟩; have hxa := Oa.ext; have Ra := Oa.row; have hz_wa := hxa.size; (try simp at hz_wa); (try (have hq0_wa : w.heap.size + 1 < wa.heap.size := by omega)); (try (have hc0_wa : ∀ o, wa.cell? ⟨w.heap.size + 1, o, none⟩ = _ := fun o => hxa.cells.1 _ o (by first | (simp; done) | (simp; omega) | omega))); (try (have hf0_wa : ∀ o, wa.frozen? ⟨w.heap.size + 1, o, none⟩ = _ := fun o => hxa.cells.2 _ o (by first | (simp; done) | (simp; omega) | omega))); (try (have hq1_wa : w.heap.size + 1 + 1 < wa.heap.size := by omega)); (try (have hc1_wa : ∀ o, wa.cell? ⟨w.heap.size + 1 + 1, o, none⟩ = _ := fun o => hxa.cells.1 _ o (by first | (simp; done) | (simp; omega) | omega))); (try (have hf1_wa : ∀ o, wa.frozen? ⟨w.heap.size + 1 + 1, o, none⟩ = _ := fun o => hxa.cells.2 _ o (by first | (simp; done) | (simp; omega) | omega))); (try (have hq2_wa : w.heap.size + 1 + 1 + 1 < wa.heap.size := by omega)); (try (have hc2_wa : ∀ o, wa.cell? ⟨w.heap.size + 1 + 1 + 1, o, none⟩ = _ := fun o => hxa.cells.1 _ o (by first | (simp; done) | (simp; omega) | omega))); (try (have hf2_wa : ∀ o, wa.frozen? ⟨w.heap.size + 1 + 1 + 1, o, none⟩ = _ := fun o => hxa.cells.2 _ o (by first | (simp; done) | (simp; omega) | omega)))) | (refine stepE (by rfl) _ _ Tryz.underlying28 hiS (by rfl) (by rfl) (by rfl) ?_) | (go_at_call 58; (with_reducible refine (copied_none P Q cp cq _).mono ?_); rintro e wc ⟨Ac, cc, Bc, dc, rfl, hxc⟩; have hz_wc := hxc.size; (try simp at hz_wc); (try (have hq0_wc : w.heap.size + 1 < wc.heap.size := by omega)); (try (have hc0_wc : ∀ o, wc.cell? ⟨w.heap.size + 1, o, none⟩ = _ := fun o => hxc.cells.1 _ o (by first | (simp; done) | (simp; omega) | omega))); (try (have hf0_wc : ∀ o, wc.frozen? ⟨w.heap.size + 1, o, none⟩ = _ := fun o => hxc.cells.2 _ o (by first | (simp; done) | (simp; omega) | omega))); (try (have hq1_wc : w.heap.size + 1 + 1 < wc.heap.size := by omega)); (try (have hc1_wc : ∀ o, wc.cell? ⟨w.heap.size + 1 + 1, o, none⟩ = _ := fun o => hxc.cells.1 _ o (by first | (simp; done) | (simp; omega) | omega))); (try (have hf1_wc : ∀ o, wc.frozen? ⟨w.heap.size + 1 + 1, o, none⟩ = _ := fun o => hxc.cells.2 _ o (by first | (simp; done) | (simp; omega) | omega))); (try (have hq2_wc : w.heap.size + 1 + 1 + 1 < wc.heap.size := by omega)); (try (have hc2_wc : ∀ o, wc.cell? ⟨w.heap.size + 1 + 1 + 1, o, none⟩ = _ := fun o => hxc.cells.1 _ o (by first | (simp; done) | (simp; omega) | omega))); (try (have hf2_wc : ∀ o, wc.frozen? ⟨w.heap.size + 1 + 1 + 1, o, none⟩ = _ := fun o => hxc.cells.2 _ o (by first | (simp; done) | (simp; omega) | omega))); (try (have hq3_wc : wa.heap.size < wc.heap.size := by omega)); (try (have hc3_wc : ∀ o, wc.cell? ⟨wa.heap.size, o, none⟩ = _ := fun o => hxc.cells.1 _ o (by first | (simp; done) | (simp; omega) | omega))); (try (have hf3_wc : ∀ o, wc.frozen? ⟨wa.heap.size, o, none⟩ = _ := fun o => hxc.cells.2 _ o (by first | (simp; done) | (simp; omega) | omega))); (try (have hq4_wc : wa.heap.size + 1 < wc.heap.size := by omega)); (try (have hc4_wc : ∀ o, wc.cell? ⟨wa.heap.size + 1, o, none⟩ = _ := fun o => hxc.cells.1 _ o (by first | (simp; done) | (simp; omega) | omega))); (try (have hf4_wc : ∀ o, wc.frozen? ⟨wa.heap.size + 1, o, none⟩ = _ := fun o => hxc.cells.2 _ o (by first | (simp; done) | (simp; omega) | omega))); (try (have hq5_wc : wa.heap.size + 1 + 1 < wc.heap.size := by omega)); (try (have hc5_wc : ∀ o, wc.cell? ⟨wa.heap.size + 1 + 1, o, none⟩ = _ := fun o => hxc.cells.1 _ o (by first | (simp; done) | (simp; omega) | omega))); (try (have hf5_wc : ∀ o, wc.frozen? ⟨wa.heap.size + 1 + 1, o, none⟩ = _ := fun o => hxc.cells.2 _ o (by first | (simp; done) | (simp; omega) | omega)))))
    all_goals (go_wp2_with fail; go_meet)
    all_goals first
      | (with_reducible refine cpb_new rfl rfl rfl rfl rfl ?_ ?_ ?_ ?_ (w.heap.size + 2) (w.heap.size + 2) ?_ ?_ ?_ rowW_no rowSW_no passRW_no)
      | (with_reducible refine cpb_set rfl rfl rfl rfl rfl ?_ ?_ ?_ ?_ ?_ ?_ ?_ ?_ (fun i => ?_) ?_ ?_ ?_ (w.heap.size + 2) (w.heap.size + 2) ?_ ?_ ?_ ?_ rowW_no rowSW_no passRW_no)
    all_goals first
      | (simp; done)
      | (simp; omega)
      | omega
      | (go_simp; done)
      | exact HBX.out.ext (by with_reducible (repeat (first | exact Ext.refl _ | apply Ext.drewN | apply Ext.drew | apply Ext.alloc | (refine Ext.set ?_ (by first | (simp; done) | (simp; omega) | omega) _) | (refine Ext.trans ?_ (by assumption)))))
      | exact HRX.out.ext (by with_reducible (repeat (first | exact Ext.refl _ | apply Ext.drewN | apply Ext.drew | apply Ext.alloc | (refine Ext.set ?_ (by first | (simp; done) | (simp; omega) | omega) _) | (refine Ext.trans ?_ (by assumption)))))
      | exact (by with_reducible (repeat (first | exact Ext.refl _ | apply Ext.drewN | apply Ext.drew | apply Ext.alloc | (refine Ext.set ?_ (by first | (simp; done) | (simp; omega) | omega) _) | (refine Ext.trans ?_ (by assumption)))))
      | (left; simp; done)
      | (left; simp; omega)
      | (right; simp; done)
      | (right; simp; omega)
      | trace_state
  case rest =>
    obtain ⟨g, V, hcut⟩ := hcut
    have HC := Lib.hid hcut
    obtain ⟨vk, A1, n1, c1, B1, m1, d1, S1, q1, e1, P1, p1, f1, Q1, r1, g1⟩ := V
    obtain ⟨hs3, hlo, hk, hna, ⟨hb1, hb2, hb3⟩, hns, hnp, hnq, hbox, hfr, hold, hres, hX, l, h, hl1, hl2, hl3, hl4, ra, rs, rp⟩ := hcut
    dsimp only at *
    subst hs3 hk hna hb1 hb2 hb3 hns hnp hnq
    obtain ⟨ho1, h00, h01, h02, h03, h04, h05⟩ := hold
    obtain ⟨hg1, h10, h11, h12, h13, h14, h15⟩ := hbox
    dsimp only at *
    have hf := hfr.f
    have hfr2 := hres.f
    obtain ⟨u0, rr0⟩ := hres.c 0 (by omega)
    obtain ⟨u1, rr1⟩ := hres.c 1 (by omega)
    obtain ⟨u2, rr2⟩ := hres.c 2 (by omega)
    obtain ⟨u3, rr3⟩ := hres.c 3 (by omega)
    obtain ⟨u4, rr4⟩ := hres.c 4 (by omega)
    obtain ⟨u5, rr5⟩ := hres.c 5 (by omega)
    have hrl := hres.lt
    have HSX := Lib.hid hfr
    have HRS := Lib.hid hres
    have HX := Lib.hid hX
    have HLN := Lib.hid hm.len
    have HLL := Lib.hid hL
    have HL0 : Hid (LpN w wc wc g (⟨2, A1, 0, c1, none, 0, 0, S1, 0, e1, P1, 0, f1, Q1, 0, g1⟩ : NV) (⟨2, A, 0, ca, B, nb, cb, S, 0, cs, P, 0, cp, Q, 0, cq⟩ : NV) none 0 0 (dm.take 0)) := ⟨hX, Nat.le_refl _, ⟨hg1, h10, h11, h12, h13, h14, h15⟩, hfr, ⟨ho1, h00, h01, h02, h03, h04, h05⟩, hres, LRow.nil _ _ _⟩
    clear ra rs rp hL
    go_wp2
    go_loopw [23] (fun i wr => ∃ k : Nat, k ≤ nb ∧ i = .int .i64 k ∧ ∃ C d, LpN w wc wr g (⟨2, A1, 0, c1, none, 0, 0, S1, 0, e1, P1, 0, f1, Q1, 0, g1⟩ : NV) (⟨2, A, 0, ca, B, nb, cb, S, 0, cs, P, 0, cp, Q, 0, cq⟩ : NV) C k d (dm.take k)) (fun i _ => nb - (intOf i).toNat)
    case atStart => exact ⟨0, Nat.zero_le _, rfl, none, 0, HL0.out⟩
    case round =>
      obtain ⟨k, hk, rfl, C, d, hlp⟩ := hrel
      have HLP := Lib.hid hlp
      obtain ⟨hX2, hsz, hbx, hsx, hold2, hres2, hR⟩ := hlp
      have hgr : g < wr.heap.size := hbx.lt
      have hwr0 : w.heap.size < wr.heap.size := by omega
      have hwr : w.heap.size + 1 < wr.heap.size := hres2.lt
      by_cases hlt : k < nb
      · obtain ⟨b, off, rfl, hb, hcell⟩ := (hm.ext hX2).at_ (by omega)
        obtain ⟨B2, m, q, e0, hJ⟩ := hcell k hlt
        have hki : (k : Int) < nb := by omega
        have HS := Lib.hid (take_ll (L := dm) (i := k) (by rw [HLN.out]; exact hlt))
        have hm6 : m ≤ 1000000 := by have := HLL.out k hlt; rw [hJ.len] at this; exact this
        have hlm := hJ.len
        have g2 := hbx.c2
        have gf := hsx.f 2
        dsimp only at g2
        clear hcell hsx hold2 hres2 hbx h00 h01 h02 h03 h04 h05 h10 h11 h12 h13 h14 h15 rr0 rr1 rr2 rr3 rr4 rr5 hf hfr2 HL0
        generalize ll dm k = xs at hJ HS hlm
        have HR := Lib.hid hR
        clear hR
        go_wp2
        go_region_law (first | (go_simp; go_at_call 57; (with_reducible refine (copyNumbers_any B2 m q xs _ (hJ.ext (by with_reducible (repeat (first | exact Ext.refl _ | apply Ext.drewN | apply Ext.drew | apply Ext.alloc | (refine Ext.set ?_ (by first | (simp; done) | (simp; omega) | omega) _) | (refine Ext.trans ?_ (by assumption)))))) hm6).mono ?_); rintro e w5 ⟨A5, c5, rfl, ho5⟩; have hx5 := ho5.ext; have hR5 := ho5.row; have z5 : wr.heap.size ≤ w5.heap.size := hx5.size; have y1 : g < w5.heap.size := (by omega); have b5 : w5.cell? ⟨g, 2, none⟩ = some (.slice C k d) := hx5.cell hgr (by go_simp); have f5 : w5.frozen? ⟨g, 2, none⟩ = false := (hx5.cells.2 _ 2 hgr).trans (by go_simp); have hE5 : Ext wr w5 := Ext.trans (by with_reducible (repeat (first | exact Ext.refl _ | apply Ext.drewN | apply Ext.drew | apply Ext.alloc | (refine Ext.set ?_ (by first | (simp; done) | (simp; omega) | omega) _) | (refine Ext.trans ?_ (by assumption))))) hx5) | (refine stepLL2 rfl _ _ rfl rfl HR.out hX2 (by omega) (Ext.alloc hE5 _) (by omega) rfl (heap_alloc_new _ _) rfl (hR5.ext ((Ext.refl _).alloc _)) hlm (Nat.le_refl _) (by simp) ?_; intro A2 c2 w2 R2 hx2 hz2 hk2; have b2 : w2.cell? ⟨g, 2, none⟩ = some (.slice C k d) := (hk2 _ 2 hg1).1.trans (by go_simp); have f2 : w2.frozen? ⟨g, 2, none⟩ = false := (hk2 _ 2 hg1).2.trans (by go_simp)))
        all_goals
          have HP := Lib.hid (HLP.out.next (Ext.alloc hE5 _) hz2 hk2 hx2 hg1 (by omega) hlo R2)
          have hz3 := hx2.size
          have hgw : g < w2.heap.size := by (try simp at hz2); omega
          rw [← HS.out] at HP
          clear R2 hk2 hR5
          go_wp2
          go_roundw
          case rel => exact ⟨k + 1, by omega, by go_num, _, _, HP.out⟩
          case measure => simp [intOf]; omega
      · obtain rfl : nb = k := by omega
        have e : dm.take nb = dm := List.take_of_length_le (by rw [HLN.out]; exact Nat.le_refl _)
        have HD := Lib.hid (HLP.out.done (by omega) rfl rfl rfl rfl)
        rw [e] at HD
        have HNB := Lib.hid (sto_box HLP.out.res (⟨2, A1, 0, c1, C, nb, d, S1, 0, e1, P1, 0, f1, Q1, 0, g1⟩ : NV))
        obtain ⟨-, k0, k1, k2, k3, k4, k5⟩ := hbx
        have kf := hres2.f
        obtain ⟨v0, s0⟩ := hres2.c 0 (by omega)
        obtain ⟨v1, s1⟩ := hres2.c 1 (by omega)
        obtain ⟨v2, s2⟩ := hres2.c 2 (by omega)
        obtain ⟨v3, s3⟩ := hres2.c 3 (by omega)
        obtain ⟨v4, s4⟩ := hres2.c 4 (by omega)
        obtain ⟨v5, s5⟩ := hres2.c 5 (by omega)
        clear e hR hold2 hsx hres2 h00 h01 h02 h03 h04 h05 h10 h11 h12 h13 h14 h15 rr0 rr1 rr2 rr3 rr4 rr5 hf hfr2 HL0
        go_wp2
        refine bodyPost_ret (v := (⟨2, A1, 0, c1, C, nb, d, S1, 0, e1, P1, 0, f1, Q1, 0, g1⟩ : NV).val) ?_ ?_ ?_
        · exact results_not rfl rfl HNB.out
        · rfl
        · exact HD.out
end Go.Proofs.YtbihbhdaenhdoaaGreat
