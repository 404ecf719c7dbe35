/- Drawn passing patterns: l06Bent. No condition but the stated bounds. -/
import Derived.Test.YtlalaomimfdepaaPsd3
import Derived.Deep.RegionHeld3
namespace Go.Proofs.Ytlalaomimfdepaa
set_option linter.unusedVariables false
set_option linter.unusedSimpArgs false
open Go.ChangeShapes Go.WideShapes Go.ChangeAt Go.RowKit Go.Joins Go.Deep

/-- A list of throws that lies behind lo. -/
structure ThO (w : World) (lo : Nat) (A : Option Addr) (n : Nat) (ts : List (Int × Bool)) : Prop where
  t : Thr w A n ts
  lo : ∀ a, A = some a → lo ≤ a.block
theorem ThO.ext {w w' : World} {lo : Nat} {A : Option Addr} {n : Nat} {ts : List (Int × Bool)} (h : ThO w lo A n ts) (k : Ext w w') : ThO w' lo A n ts := ⟨h.t.ext k, h.lo⟩
theorem ThO.lower {w : World} {lo lo' : Nat} {A : Option Addr} {n : Nat} {ts : List (Int × Bool)} (h : ThO w lo A n ts) (k : lo' ≤ lo) : ThO w lo' A n ts := ⟨h.t, fun a ha => Nat.le_trans k (h.lo a ha)⟩
theorem ThO.far {w : World} {lo : Nat} {A : Option Addr} {n : Nat} {ts : List (Int × Bool)} (h : ThO w lo A n ts) {p : Addr} (hp : p.block < lo) (v : Value) : ThO (w.setCell p v) lo A n ts :=
  ⟨⟨h.t.len, h.t.small, fun hn => by
    obtain ⟨b, off, e, hb, hc⟩ := h.t.at_ hn
    have hl := h.lo _ e
    simp at hl
    refine ⟨b, off, e, by simpa [World.setCell] using hb, fun i hi => ?_⟩
    obtain ⟨h1, h2⟩ := hc i hi
    rw [World.cell?_setCell_other _ _ _ _ (fun e' => by subst e'; simp at hp; omega), World.cell?_setCell_other _ _ _ _ (fun e' => by subst e'; simp at hp; omega)]
    exact ⟨h1, h2⟩⟩, h.lo⟩
theorem ThO.drawn {w w' : World} {lo g : Nat} {A : Option Addr} {n : Nat} {ts : List (Int × Bool)} (h : ThO w lo A n ts) (k : w.grownBy w' (some g)) (hg : g < lo) : ThO w' lo A n ts :=
  ⟨⟨h.t.len, h.t.small, fun hn => by
    obtain ⟨b, off, e, hb, hc⟩ := h.t.at_ hn
    have hl := h.lo _ e
    simp at hl
    refine ⟨b, off, e, Nat.lt_of_lt_of_le hb k.size, fun i hi => ?_⟩
    obtain ⟨h1, h2⟩ := hc i hi
    exact ⟨(grown_cell k hb (by omega) _).trans h1, (grown_cell k hb (by omega) _).trans h2⟩⟩, h.lo⟩
theorem RowT.tho {w : World} {lo hi : Nat} {A : Option Addr} {n c : Nat} {ts : List (Int × Bool)} (h : RowT w lo hi A n c ts) (hn : n ≤ 1000000000) : ThO w lo A n ts :=
  ⟨h.thr hn, fun a ha => (h.row_bd a.block (by rw [ha]; rfl)).1⟩
theorem ThO.take {w : World} {lo : Nat} {A : Option Addr} {n : Nat} {ts : List (Int × Bool)} (h : ThO w lo A n ts) {k : Nat} (hk : k ≤ n) : ThO w lo A k (ts.take k) :=
  ⟨⟨by rw [List.length_take, h.t.len]; omega, by have := h.t.small; omega, fun h0 => by
    obtain ⟨b, off, e, hb, hc⟩ := h.t.at_ (by omega)
    refine ⟨b, off, e, hb, fun i hi => ?_⟩
    have e1 : tv (ts.take k) i = tv ts i := by unfold tv; rw [List.getElem?_take_of_lt hi]
    have e2 : tp (ts.take k) i = tp ts i := by unfold tp; rw [List.getElem?_take_of_lt hi]
    rw [e1, e2]
    exact hc i (by omega)⟩, h.lo⟩
/-- A drawn pattern that may be bent. -/
def DrawnQ (w0 w : World) (g : Nat) (A : Option Addr) (n c : Nat) (xs : List Int) (top : Nat) (e : Ending) (w' : World) : Prop :=
  ∃ (A1 : Option Addr) (n1 c1 : Nat) (B1 : Option Addr) (m1 d1 : Nat) (ts us : List (Int × Bool)), e = .returned (.agg #[.slice A1 n1 c1, .slice B1 m1 d1]) ∧ (n1 ≤ 10 ∧ m1 ≤ 10) ∧ ThO w' w.heap.size A1 n1 ts ∧ ThO w' w.heap.size B1 m1 us ∧ Srd w0 w' g A n c xs top ∧ w.grownBy w' (some g)
/-- 'append(list, throw)' in a plain region. -/
theorem appT {W : World} {lo : Nat} {v : Value} {n : Nat} {cs ys : List Value} {ops : Array Oper} {rest : List Oper} {o : Oper} {a : Act} {Q : Exit → Act → World → Prop} (hgd : o.guard = none) (s x : Operand)
    (ho : o.op = .call { callee := .builtin .append, args := #[s, x], argTypes := #[26, 26] }) (hs : a.eval s = v) (hown : W.ownsRow lo 54 2 v n cs) (hlo : lo ≤ W.heap.size) (hn : n ≤ 1000) {B : Nat}
    (hx : a.eval x = .slice (some ⟨B, 0, none⟩) 1 1) {ar : Array Value} {t' : TypeId} {fr : Nat × Nat} (hB : W.heap[B]? = some (.cells ar t' fr)) (hc : ar.toList = ys) (hl : ys.length = 2) (h1 : ∀ u ∈ ys, u.oneCell' = true)
    (h : ∀ v' w', w'.ownsRow lo 54 2 v' (n + 1) (cs ++ ys) → W.grownBy w' v.ownBlock → (v'.ownBlock = v.ownBlock ∨ v'.ownBlock = some W.heap.size) → wpList Try.prog ops Q rest (a.put o.dst v') w') : wpList Try.prog ops Q (o :: rest) a W := by
  obtain ⟨i, z, hi, hz0, hz1, hz2, hz3⟩ := elThr
  refine wpList_plain hgd fun _ hK => ?_
  obtain ⟨v', w', hrun, h2, h3, _, h5⟩ := run_append_own_at (P := Try.prog) W lo 26 o.type 54 i z 2 16 Try.underlying26 hi hz0 hz1 hz2 hz3 (by omega) v n _ hown ⟨B, 0, none⟩ 1 1 ys (by rw [hl]) (newsG hB hc) h1 (by unfold maxLen; omega) (by omega) hlo
  unfold Oper.wp execOp
  simp only [ho, resolve, invoke, builtin, Sem.run_bind, Sem.run_pure, Result.andThen_ok, List.map_toArray, List.map_cons, List.map_nil, hs, hx, hrun]
  exact hK _ _ (h v' w' h2 h3 h5)
theorem bent_fin {w0 w wx : World} {g n c top : Nat} {A : Option Addr} {xs : List Int} {A1 B1 : Option Addr} {n1 c1 m1 d1 : Nat} {ts us : List (Int × Bool)} (hA : ThO wx (w.heap.size + 1) A1 n1 ts) (hB : ThO wx (w.heap.size + 1) B1 m1 us) (hn : n1 ≤ 10 ∧ m1 ≤ 10)
    (hs : Srd w0 wx g A n c xs top) (hg : w.grownBy wx (some g)) (gl : g < w.heap.size) {top' : Nat} (ht : top ≤ top') (u v : Value) :
    DrawnQ w0 w g A n c xs top' (.returned (.agg #[.slice A1 n1 c1, .slice B1 m1 d1])) ((wx.setCell ⟨w.heap.size, 0, none⟩ u).setCell ⟨w.heap.size, 1, none⟩ v) :=
  ⟨A1, n1, c1, B1, m1, d1, ts, us, rfl, hn, ((hA.far (p := ⟨w.heap.size, 0, none⟩) (by show w.heap.size < w.heap.size + 1; omega) u).far (p := ⟨w.heap.size, 1, none⟩) (by show w.heap.size < w.heap.size + 1; omega) v).lower (by omega),
    ((hB.far (p := ⟨w.heap.size, 0, none⟩) (by show w.heap.size < w.heap.size + 1; omega) u).far (p := ⟨w.heap.size, 1, none⟩) (by show w.heap.size < w.heap.size + 1; omega) v).lower (by omega),
    ((hs.put (by show g < w.heap.size; omega) _).put (by show g < w.heap.size; omega) _).more ht, grown_put (grown_put hg (by show w.heap.size ≤ w.heap.size; omega) _) (by show w.heap.size ≤ w.heap.size; omega) _⟩
theorem tv_setL {ts : List (Int × Bool)} {k i : Nat} {x : Int × Bool} (hk : k < ts.length) : tv (ts.set k x) i = if i = k then x.1 else tv ts i := by
  unfold tv
  by_cases h : i = k
  · subst h; rw [if_pos rfl, List.getElem?_set_self hk]; rfl
  · rw [if_neg h, List.getElem?_set_ne (fun e => h e.symm)]
theorem tp_setL {ts : List (Int × Bool)} {k i : Nat} {x : Int × Bool} (hk : k < ts.length) : tp (ts.set k x) i = if i = k then x.2 else tp ts i := by
  unfold tp
  by_cases h : i = k
  · subst h; rw [if_pos rfl, List.getElem?_set_self hk]; rfl
  · rw [if_neg h, List.getElem?_set_ne (fun e => h e.symm)]
theorem ThO.putV {w : World} {lo n gb k : Nat} {ts : List (Int × Bool)} (h : ThO w lo (some ⟨gb, 0, none⟩) n ts) (hk : k < n) (y : Int) : ThO (w.setCell ⟨gb, k * 2, none⟩ (.int .i64 y)) lo (some ⟨gb, 0, none⟩) n (ts.set k (y, tp ts k)) :=
  ⟨⟨by rw [List.length_set]; exact h.t.len, h.t.small, fun hn => by
    have hl := h.t.len
    obtain ⟨b, off, e, hb, hc⟩ := h.t.at_ hn
    cases e
    refine ⟨gb, 0, rfl, by simpa [World.setCell] using hb, fun i hi => ?_⟩
    obtain ⟨h1, h2⟩ := hc i hi
    rw [tv_setL (by omega), tp_setL (by omega)]
    by_cases e : i = k
    · subst e
      rw [if_pos rfl, if_pos rfl]
      refine ⟨?_, ?_⟩
      · rw [show 0 + i * 2 = i * 2 by omega] at h1 ⊢
        exact World.cell?_setCell_same _ _ _ h1
      · rw [World.cell?_setCell_other _ _ _ _ (fun e' => by injection e' with _ e2 _; omega)]; exact h2
    · rw [if_neg e, if_neg e]
      rw [World.cell?_setCell_other _ _ _ _ (fun e' => by injection e' with _ e2 _; omega), World.cell?_setCell_other _ _ _ _ (fun e' => by injection e' with _ e2 _; omega)]
      exact ⟨h1, h2⟩⟩, h.lo⟩
theorem ThO.putB {w : World} {lo n gb k : Nat} {ts : List (Int × Bool)} (h : ThO w lo (some ⟨gb, 0, none⟩) n ts) (hk : k < n) (p : Bool) : ThO (w.setCell ⟨gb, k * 2 + 1, none⟩ (.bool p)) lo (some ⟨gb, 0, none⟩) n (ts.set k (tv ts k, p)) :=
  ⟨⟨by rw [List.length_set]; exact h.t.len, h.t.small, fun hn => by
    have hl := h.t.len
    obtain ⟨b, off, e, hb, hc⟩ := h.t.at_ hn
    cases e
    refine ⟨gb, 0, rfl, by simpa [World.setCell] using hb, fun i hi => ?_⟩
    obtain ⟨h1, h2⟩ := hc i hi
    rw [tv_setL (by omega), tp_setL (by omega)]
    by_cases e : i = k
    · subst e
      rw [if_pos rfl, if_pos rfl]
      refine ⟨?_, ?_⟩
      · rw [World.cell?_setCell_other _ _ _ _ (fun e' => by injection e' with _ e2 _; omega)]; exact h1
      · rw [show 0 + i * 2 + 1 = i * 2 + 1 by omega] at h2 ⊢
        exact World.cell?_setCell_same _ _ _ h2
    · rw [if_neg e, if_neg e]
      rw [World.cell?_setCell_other _ _ _ _ (fun e' => by injection e' with _ e2 _; omega), World.cell?_setCell_other _ _ _ _ (fun e' => by injection e' with _ e2 _; omega)]
      exact ⟨h1, h2⟩⟩, h.lo⟩
/-- The list 'throws that pass', j long. -/
def r3 (j : Nat) : List (Int × Bool) := List.replicate j (3, true)
theorem r3_len (j : Nat) : (r3 j).length = j := by simp [r3]
theorem r3_succ (j : Nat) : flT (r3 j) ++ [.int .i64 3, .bool true] = flT (r3 (j + 1)) := by
  unfold r3
  rw [List.replicate_succ', flT_snoc]
theorem ThO.of_own {w : World} {lo n c : Nat} {A : Option Addr} {ts : List (Int × Bool)} (h : w.ownsRow lo 54 2 (.slice A n c) n (flT ts)) (hl : ts.length = n) (hn : n ≤ 1000) : ThO w lo A n ts := by
  refine ⟨⟨hl, by omega, fun h0 => ?_⟩, fun a ha => ?_⟩
  · obtain ⟨g, c', e, h1, h2⟩ := World.ownsRow.form h h0
    cases e
    refine ⟨g, 0, rfl, h2, fun i hi => ?_⟩
    obtain ⟨e1, e2⟩ := flT_get ts i (by omega)
    rw [Nat.zero_add]
    exact ⟨(World.ownsRow.cellAt h (i * 2) (by omega)).trans e1, (World.ownsRow.cellAt h (i * 2 + 1) (by omega)).trans e2⟩
  · subst ha
    exact (World.ownsRow.lt h a.block rfl).1
/-- Two lists that grow, told by the box OB. -/
structure BLp (w0 w wr : World) (g : Nat) (A : Option Addr) (n c : Nat) (xs : List Int) (top OB lo j k : Nat) (a b : Value) : Prop where
  k0 : wr.cell? ⟨OB, 0, none⟩ = some a
  k1 : wr.cell? ⟨OB, 1, none⟩ = some b
  f : ∀ o, wr.frozen? ⟨OB, o, none⟩ = false
  oa : wr.ownsRow lo 54 2 a j (flT (r3 j))
  ob : wr.ownsRow lo 54 2 b k (flT (r3 k))
  ne : ∀ q, a.ownBlock = some q → b.ownBlock ≠ some q
  ll : OB < lo
  gt : w.heap.size < OB
  sz : lo ≤ wr.heap.size
  r0 : wr.cell? ⟨w.heap.size, 0, none⟩ = some (.slice none 0 0)
  r1 : wr.cell? ⟨w.heap.size, 1, none⟩ = some (.slice none 0 0)
  rf : ∀ o, wr.frozen? ⟨w.heap.size, o, none⟩ = false
  S : Srd w0 wr g A n c xs top
  G : w.grownBy wr (some g)
  gl : g < w.heap.size
section
variable {w0 w wr w' : World} {g n c top OB lo j k : Nat} {A : Option Addr} {xs : List Int} {a b v' : Value}
theorem BLp.drawn (h : BLp w0 w wr g A n c xs top OB lo j k a b) {top' : Nat} (hs : Srd w0 w' g A n c xs top') (q : wr.grownBy w' (some g)) : BLp w0 w w' g A n c xs top' OB lo j k a b :=
  have hl := h.ll
  have hg := h.gt
  have hgl := h.gl
  have hsz := h.sz
  ⟨(grown_cell q (by omega) (by omega) _).trans h.k0, (grown_cell q (by omega) (by omega) _).trans h.k1, fun o => (grown_frozen q (by omega) (by omega) o).trans (h.f o), own_keep h.oa q (by omega), own_keep h.ob q (by omega), h.ne, hl, hg, Nat.le_trans hsz q.size,
    (grown_cell q (by omega) (by omega) _).trans h.r0, (grown_cell q (by omega) (by omega) _).trans h.r1, fun o => (grown_frozen q (by omega) (by omega) o).trans (h.rf o), hs, grown_trans h.G q, hgl⟩
theorem own_cellB {W W' : World} {row : Option Nat} (q : W.grownBy W' row) {b : Nat} (hb : b < W.heap.size) (hne : some b ≠ row) (o : Nat) : W'.cell? ⟨b, o, none⟩ = W.cell? ⟨b, o, none⟩ ∧ W'.frozen? ⟨b, o, none⟩ = W.frozen? ⟨b, o, none⟩ :=
  ⟨World.cell?_of_block (q.block b hb hne), World.frozen?_of_block (q.block b hb hne)⟩
theorem BLp.mid (h : BLp w0 w wr g A n c xs top OB lo j k a b) {o : Obj} {v : Value} {m : Nat} {cs : List Value} (hv : wr.ownsRow lo 54 2 v m cs) (q : (wr.alloc o).grownBy w' v.ownBlock) :
    (w'.cell? ⟨OB, 0, none⟩ = some a ∧ w'.cell? ⟨OB, 1, none⟩ = some b) ∧ ((∀ i, w'.frozen? ⟨OB, i, none⟩ = false) ∧ lo ≤ w'.heap.size) ∧ ((w'.cell? ⟨w.heap.size, 0, none⟩ = some (.slice none 0 0) ∧ w'.cell? ⟨w.heap.size, 1, none⟩ = some (.slice none 0 0)) ∧ ∀ i, w'.frozen? ⟨w.heap.size, i, none⟩ = false) ∧ (∀ {top'}, top ≤ top' → Srd w0 w' g A n c xs top') ∧ w.grownBy w' (some g) := by
  have hl := h.ll
  have hg := h.gt
  have hgl := h.gl
  have hsz := h.sz
  have hz : (wr.alloc o).heap.size = wr.heap.size + 1 := by simp
  have hx : Ext wr (wr.alloc o) := (Ext.refl _).alloc _
  have hlo : ∀ b, v.ownBlock = some b → lo ≤ b := fun b hb => (World.ownsRow.lt hv b hb).1
  have e : ∀ b, b < lo → ∀ i, w'.cell? ⟨b, i, none⟩ = wr.cell? ⟨b, i, none⟩ ∧ w'.frozen? ⟨b, i, none⟩ = wr.frozen? ⟨b, i, none⟩ := fun b hb i => by
    have h1 := own_cellB q (b := b) (by omega) (fun e => by have := hlo b e.symm; omega) i
    exact ⟨h1.1.trans (hx.cells.1 b i (by omega)), h1.2.trans (hx.cells.2 b i (by omega))⟩
  refine ⟨⟨(e _ hl 0).1.trans h.k0, (e _ hl 1).1.trans h.k1⟩, ⟨fun i => (e _ hl i).2.trans (h.f i), by have := q.size; omega⟩, ⟨⟨(e _ (by omega) 0).1.trans h.r0, (e _ (by omega) 1).1.trans h.r1⟩, fun i => (e _ (by omega) i).2.trans (h.rf i)⟩, fun ht => ((h.S.after hx).own q (fun b hb => by have := hlo b hb; omega)).more ht, grown_own (grown_new h.G o) q (fun b hb => by have := hlo b hb; omega)⟩
theorem BLp.appA (h : BLp w0 w wr g A n c xs top OB lo j k a b) {o : Obj} (ho : w'.ownsRow lo 54 2 v' (j + 1) (flT (r3 (j + 1)))) (q : (wr.alloc o).grownBy w' a.ownBlock) (hv : v'.ownBlock = a.ownBlock ∨ v'.ownBlock = some (wr.alloc o).heap.size) :
    BLp w0 w (w'.setCell ⟨OB, 0, none⟩ v') g A n c xs top OB lo (j + 1) k v' b := by
  obtain ⟨⟨m0, m1⟩, ⟨mf, ms⟩, ⟨⟨mr0, mr1⟩, mrf⟩, mS, mG⟩ := h.mid h.oa q
  have hl := h.ll
  have hg := h.gt
  have hgl := h.gl
  have hz : (wr.alloc o).heap.size = wr.heap.size + 1 := by simp
  have hB : w'.ownsRow lo 54 2 b k (flT (r3 k)) := own_far (own_ext h.ob ((Ext.refl _).alloc o)) q (fun x hx hb => h.ne x hx hb)
  refine ⟨World.cell?_setCell_same _ _ _ m0, ?_, fun i => by rw [World.frozen?_setCell]; exact mf i, own_far ho (only_setCell (World.grownBy.refl w' (some OB)) (p := ⟨OB, 0, none⟩) rfl v') (fun x hx hb => by cases hx; have := (World.ownsRow.lt ho _ hb).1; omega), own_far hB (only_setCell (World.grownBy.refl w' (some OB)) (p := ⟨OB, 0, none⟩) rfl v') (fun x hx hb => by cases hx; have := (World.ownsRow.lt hB _ hb).1; omega), fun x hx hb => ?_, hl, hg, by simpa [World.setCell] using ms, ?_, ?_, fun i => by rw [World.frozen?_setCell]; exact mrf i, (mS (Nat.le_refl _)).put (by show g < OB; omega) _, grown_put mG (by show w.heap.size ≤ OB; omega) _, hgl⟩
  · rw [World.cell?_setCell_other _ _ _ _ (fun e => by cases e)]; exact m1
  · rcases hv with hv | hv
    · exact h.ne x (hv ▸ hx) hb
    · have h1 := (World.ownsRow.lt h.ob x hb).2
      rw [hv] at hx
      cases hx
      omega
  · rw [World.cell?_setCell_other _ _ _ _ (fun e => by injection e with e1 _ _; omega)]; exact mr0
  · rw [World.cell?_setCell_other _ _ _ _ (fun e => by injection e with e1 _ _; omega)]; exact mr1
theorem BLp.appB (h : BLp w0 w wr g A n c xs top OB lo j k a b) {o : Obj} (ho : w'.ownsRow lo 54 2 v' (k + 1) (flT (r3 (k + 1)))) (q : (wr.alloc o).grownBy w' b.ownBlock) (hv : v'.ownBlock = b.ownBlock ∨ v'.ownBlock = some (wr.alloc o).heap.size) :
    BLp w0 w (w'.setCell ⟨OB, 1, none⟩ v') g A n c xs top OB lo j (k + 1) a v' := by
  obtain ⟨⟨m0, m1⟩, ⟨mf, ms⟩, ⟨⟨mr0, mr1⟩, mrf⟩, mS, mG⟩ := h.mid h.ob q
  have hl := h.ll
  have hg := h.gt
  have hgl := h.gl
  have hz : (wr.alloc o).heap.size = wr.heap.size + 1 := by simp
  have hA : w'.ownsRow lo 54 2 a j (flT (r3 j)) := own_far (own_ext h.oa ((Ext.refl _).alloc o)) q (fun x hx hb => h.ne x hb hx)
  refine ⟨?_, World.cell?_setCell_same _ _ _ m1, fun i => by rw [World.frozen?_setCell]; exact mf i, own_far hA (only_setCell (World.grownBy.refl w' (some OB)) (p := ⟨OB, 1, none⟩) rfl v') (fun x hx hb => by cases hx; have := (World.ownsRow.lt hA _ hb).1; omega), own_far ho (only_setCell (World.grownBy.refl w' (some OB)) (p := ⟨OB, 1, none⟩) rfl v') (fun x hx hb => by cases hx; have := (World.ownsRow.lt ho _ hb).1; omega), fun x hx hb => ?_, hl, hg, by simpa [World.setCell] using ms, ?_, ?_, fun i => by rw [World.frozen?_setCell]; exact mrf i, (mS (Nat.le_refl _)).put (by show g < OB; omega) _, grown_put mG (by show w.heap.size ≤ OB; omega) _, hgl⟩
  · rw [World.cell?_setCell_other _ _ _ _ (fun e => by cases e)]; exact m0
  · rcases hv with hv | hv
    · exact h.ne x hx (hv ▸ hb)
    · have h1 := (World.ownsRow.lt h.oa x hx).2
      rw [hv] at hb
      cases hb
      omega
  · rw [World.cell?_setCell_other _ _ _ _ (fun e => by injection e with e1 _ _; omega)]; exact mr0
  · rw [World.cell?_setCell_other _ _ _ _ (fun e => by injection e with e1 _ _; omega)]; exact mr1
end
theorem heap_set_new (w : World) (p : Addr) (v : Value) (o : Obj) : ((w.setCell p v).alloc o).heap[w.heap.size]? = some o := by
  have h := heap_alloc_new (w.setCell p v) o
  rwa [show (w.setCell p v).heap.size = w.heap.size by simp [World.setCell]] at h
set_option maxHeartbeats 8000000 in
set_option maxRecDepth 100000 in
theorem l06Bent_any (w0 w : World) (g : Nat) (A : Option Addr) (n c : Nat) (xs : List Int) (top : Nat) (h : Srd w0 w g A n c xs top) (ht : top ≤ 500000000) :
    Calls Try.prog 36 #[.pointer (some ⟨g, 0, none⟩)] w (DrawnQ w0 w g A n c xs (top + 300)) := by
  have hlt := h.lt
  have hS0 := h.after ((Ext.refl w).alloc (.cells #[.slice none 0 0, .slice none 0 0] 28))
  have hG0 := grown_new (World.grownBy.refl w (some g)) (.cells #[.slice none 0 0, .slice none 0 0] 28)
  go_enter Try.func36, Try.ntmps36
  go_wp2_with fail
  (with_reducible refine (l06Draw_any w0 _ g A n c xs top hS0 (by omega)).mono ?_)
  rintro e w1 ⟨N, A1, c1, B1, d1, ts, us, rfl, hN, R1, hs1, hg1⟩
  have hz1 : w.heap.size + 1 ≤ w1.heap.size := by have := hg1.size; simp at this; omega
  have a0 : w1.cell? ⟨w.heap.size, 0, none⟩ = some (.slice none 0 0) := (grown_cell hg1 (by simp) (by omega) _).trans (by go_simp)
  have a1 : w1.cell? ⟨w.heap.size, 1, none⟩ = some (.slice none 0 0) := (grown_cell hg1 (by simp) (by omega) _).trans (by go_simp)
  have a2 : ∀ o, w1.frozen? ⟨w.heap.size, o, none⟩ = false := fun o => (grown_frozen hg1 (by simp) (by omega) o).trans (by go_simp)
  have hG1 := grown_trans hG0 hg1
  have hxa : Ext w1 (w1.alloc (.cells #[.slice A1 N c1, .slice B1 N d1] 28)) := (Ext.refl _).alloc _
  have R0 : PassR w1 (w.heap.size + 1) w1.heap.size A1 N c1 B1 N d1 ts us := by simpa using R1
  have H0 : Hid (PDr w0 w (w1.alloc (.cells #[.slice A1 N c1, .slice B1 N d1] 28)) g A n c xs (top + 200) w1.heap.size N A1 c1 B1 d1 ts us) := by
    refine ⟨by go_simp, by go_simp, fun o => by go_simp, (R0.ext hxa).wide (Nat.le_refl _) hxa.size, fun e => ?_, fun e => ?_, by omega, by simp, hxa.cell (by omega) a0, hxa.cell (by omega) a1, fun o => (hxa.cells.2 _ o (by omega)).trans (a2 o), hs1.after hxa, grown_exts hG1 hxa, hlt⟩
    · have := (R0.a.row_bd _ e).2; omega
    · have := (R0.b.row_bd _ e).2; omega
  clear hS0 hG0 hs1 hg1 a0 a1 a2 hG1 hxa R0 R1
  go_wp2_with fail
  (with_reducible refine (pick_any N w0 _ g A n c xs _ H0.out.S (by omega)).mono ?_)
  rintro e w2 ⟨x2, rfl, hx2, hs2, hg2⟩
  obtain ⟨q, rfl⟩ : ∃ q : Nat, x2 = q := ⟨x2.toNat, by omega⟩
  have hqN : q < N := by omega
  have hqi : (q : Int) < N := by omega
  have H1 := Lib.hid (H0.out.drawn hs2 hg2)
  clear hs2 hg2 H0 hx2
  go_wp2_with fail
  (with_reducible refine (pick_any 18 w0 _ g A n c xs _ H1.out.S (by omega)).mono ?_)
  rintro e w3 ⟨v, rfl, hv, hs3, hg3⟩
  have H := Lib.hid (H1.out.drawn hs3 hg3)
  clear hs3 hg3 H1
  have o0 := H.out.k0
  have o1 := H.out.k1
  have of0 := H.out.f
  have r0 := H.out.r0
  have r1 := H.out.r1
  have rf := H.out.rf
  have olt := H.out.lt
  have ogt := H.out.gt
  have rl : w.heap.size < w3.heap.size := by omega
  have hrne : ¬ w.heap.size = w1.heap.size := by omega
  obtain ⟨ga, hga, ga1, ga2, ga3⟩ := H.out.P.a.form (by omega)
  obtain ⟨gb, hgb, gb1, gb2, gb3⟩ := H.out.P.b.form (by omega)
  subst hga hgb
  obtain ⟨ca0, ca1, fa0, fa1⟩ := H.out.P.a.cells hqN
  obtain ⟨cb0, cb1, fb0, fb1⟩ := H.out.P.b.cells hqN
  have hgab : ¬ ga = gb := fun e => H.out.P.ne ga rfl (by rw [e]; rfl)
  have hgao : ¬ ga = w1.heap.size := fun e => H.out.neA (by rw [e]; rfl)
  have hgbo : ¬ gb = w1.heap.size := fun e => H.out.neB (by rw [e]; rfl)
  rcases (by omega : v = 0 ∨ v = 1 ∨ v = 2 ∨ v = 3 ∨ 4 ≤ v) with rfl | rfl | rfl | rfl | hv4
  · have hI4 : Ints (w3.alloc (.cells #[.int .i64 (-1), .int .i64 0, .int .i64 15, .int .i64 16] 2)) (some ⟨w3.heap.size, 0, none⟩) 4 [-1, 0, 15, 16] := ⟨rfl, by omega, by intro x hx; simp at hx; omega, fun _ => ⟨w3.heap.size, 0, rfl, by simp, fun i hi => by
      obtain rfl | rfl | rfl | rfl : i = 0 ∨ i = 1 ∨ i = 2 ∨ i = 3 := by omega
      · exact (cell_of_block (heap_alloc_new w3 _) 0).trans rfl
      · exact (cell_of_block (heap_alloc_new w3 _) 1).trans rfl
      · exact (cell_of_block (heap_alloc_new w3 _) 2).trans rfl
      · exact (cell_of_block (heap_alloc_new w3 _) 3).trans rfl⟩⟩
    have hg3 := H.out.S.lt
    have hNi : (N : Int) ≤ 5 := by omega
    go_wp2_with fail
    go_region_held3 (fun wz => wz.cell? ⟨w1.heap.size, 0, none⟩ = some (.slice (some ⟨ga, 0, none⟩) N c1)) (go_keep)
      (first | (go_at_call 39; (with_reducible refine (among_any _ 4 _ [-1, 0, 15, 16] w0 _ g A n c xs _ (H.out.S.after (by with_reducible (repeat (first | exact Ext.refl _ | apply Ext.drewN | apply Ext.drew | apply Ext.alloc | (refine Ext.set ?_ (by first | (simp; done) | (simp; omega) | omega) _) | (refine Ext.trans ?_ (by assumption)))))) (by omega) (hI4.ext (by with_reducible (repeat (first | exact Ext.refl _ | apply Ext.drewN | apply Ext.drew | apply Ext.alloc | (refine Ext.set ?_ (by first | (simp; done) | (simp; omega) | omega) _) | (refine Ext.trans ?_ (by assumption)))))) (by omega) (by rintro a e; cases e; show w3.heap.size ≠ g; omega)).mono ?_); rintro e w6 ⟨y, rfl, hy, hs6, hg6⟩; have H6 := Lib.hid ((H.out.ext (show Ext w3 ((w3.alloc (.cells #[.int .i64 (-1), .int .i64 0, .int .i64 15, .int .i64 16] 2)).drew) from ((Ext.refl _).alloc _).drew)).drawn hs6 hg6); have p0 := H6.out.k0; have p1 := H6.out.k1; have pf := H6.out.f; have s0 := H6.out.r0; have s1 := H6.out.r1; have sf := H6.out.rf; obtain ⟨da0, da1, ea0, ea1⟩ := H6.out.P.a.cells hqN))
    (try (rename_i hHeld; clear hHeld))
    have hA1 := (H6.out.P.a.tho (by omega)).putV hqN y
    have hB1 : ThO (w6.setCell ⟨ga, q * 2, none⟩ (.int .i64 y)) (w.heap.size + 1) (some ⟨gb, 0, none⟩) N us := (H6.out.P.b.other (p := ⟨ga, q * 2, none⟩) (by simpa using fun e => hgab e.symm) _).tho (by omega)
    have HT := Lib.hid (fun u v : Value => bent_fin (c1 := c1) (d1 := d1) (top' := top + 300) hA1 hB1 (by omega) (H6.out.S.put (p := ⟨ga, q * 2, none⟩) (by show g < ga; omega) _) (grown_put H6.out.G (p := ⟨ga, q * 2, none⟩) (by show w.heap.size ≤ ga; omega) _) hlt (by omega) u v)
    clear hA1 hB1 hy hs6 hg6 o0 o1 of0 r0 r1 rf ca0 ca1 fa0 fa1 cb0 cb1 fb0 fb1
    go_wp2
    exact bodyPost_ret (v := .agg #[.slice (some ⟨ga, 0, none⟩) N c1, .slice (some ⟨gb, 0, none⟩) N d1]) (by simp [results, Try.results36, go_sem, *]) rfl (HT.out _ _)
  · have hA1 : ThO (w3.setCell ⟨gb, q * 2 + 1, none⟩ (.bool (!tp us q))) (w.heap.size + 1) (some ⟨ga, 0, none⟩) N ts := (H.out.P.a.other (p := ⟨gb, q * 2 + 1, none⟩) (by simpa using hgab) _).tho (by omega)
    have hB1 := (H.out.P.b.tho (by omega)).putB hqN (!tp us q)
    have HT := Lib.hid (fun u v : Value => bent_fin (c1 := c1) (d1 := d1) (top' := top + 300) (hA1.ext ((Ext.refl _).drew)) (hB1.ext ((Ext.refl _).drew)) (by omega) ((H.out.S.put (p := ⟨gb, q * 2 + 1, none⟩) (by show g < gb; omega) _).after ((Ext.refl _).drew)) (grown_drewN (grown_put H.out.G (p := ⟨gb, q * 2 + 1, none⟩) (by show w.heap.size ≤ gb; omega) _) 1) hlt (by omega) u v)
    clear hA1 hB1
    go_wp2_with fail
    go_region
    go_wp2
    exact bodyPost_ret (v := .agg #[.slice (some ⟨ga, 0, none⟩) N c1, .slice (some ⟨gb, 0, none⟩) N d1]) (by simp [results, Try.results36, go_sem, *]) rfl (HT.out _ _)
  · have hA2 : ThO (w3.setCell ⟨w1.heap.size, 0, none⟩ (.slice (some ⟨ga, 0, none⟩) q c1)) (w.heap.size + 1) (some ⟨ga, 0, none⟩) q (ts.take q) := ((H.out.P.a.other (p := ⟨w1.heap.size, 0, none⟩) (by simpa using hgao) _).tho (by omega)).take (by omega)
    have hB2 : ThO (w3.setCell ⟨w1.heap.size, 0, none⟩ (.slice (some ⟨ga, 0, none⟩) q c1)) (w.heap.size + 1) (some ⟨gb, 0, none⟩) N us := (H.out.P.b.other (p := ⟨w1.heap.size, 0, none⟩) (by simpa using hgbo) _).tho (by omega)
    have HT := Lib.hid (fun u v : Value => bent_fin (c1 := c1) (d1 := d1) (top' := top + 300) hA2 hB2 (by omega) (H.out.S.put (p := ⟨w1.heap.size, 0, none⟩) (by show g < w1.heap.size; omega) _) (grown_put H.out.G (p := ⟨w1.heap.size, 0, none⟩) (by show w.heap.size ≤ w1.heap.size; omega) _) hlt (by omega) u v)
    have hcap : N ≤ c1 := by obtain ⟨cs, hr, _⟩ := H.out.P.a.row; exact hr.cap
    have hqc : q ≤ c1 := by omega
    clear hA2 hB2
    go_wp2
    exact bodyPost_ret (v := .agg #[.slice (some ⟨ga, 0, none⟩) q c1, .slice (some ⟨gb, 0, none⟩) N d1]) (by simp [results, Try.results36, go_sem, *]) rfl (HT.out _ _)
  · have hB0 : BLp w0 w ((w3.setCell ⟨w1.heap.size, 0, none⟩ (.slice none 0 0)).setCell ⟨w1.heap.size, 1, none⟩ (.slice none 0 0)) g A n c xs (top + 200 + 2 + 2) w1.heap.size w3.heap.size 0 0 (.slice none 0 0) (.slice none 0 0) := by
      refine ⟨?_, ?_, fun i => by rw [World.frozen?_setCell, World.frozen?_setCell]; exact of0 i, ⟨by simp [r3, flT], .inl ⟨rfl, rfl⟩⟩, ⟨by simp [r3, flT], .inl ⟨rfl, rfl⟩⟩, fun x hx => (by cases hx), olt, by omega, by simp [World.setCell], ?_, ?_, fun i => by rw [World.frozen?_setCell, World.frozen?_setCell]; exact rf i, (H.out.S.put (by show g < w1.heap.size; omega) _).put (by show g < w1.heap.size; omega) _, grown_put (grown_put H.out.G (by show w.heap.size ≤ w1.heap.size; omega) _) (by show w.heap.size ≤ w1.heap.size; omega) _, hlt⟩
      · rw [World.cell?_setCell_other _ _ _ _ (fun e => by cases e)]; exact World.cell?_setCell_same _ _ _ o0
      · have hq1 : (w3.setCell ⟨w1.heap.size, 0, none⟩ (.slice none 0 0)).cell? ⟨w1.heap.size, 1, none⟩ = some (.slice (some ⟨gb, 0, none⟩) N d1) := by
          rw [World.cell?_setCell_other _ _ _ _ (fun e => by cases e)]; exact o1
        exact World.cell?_setCell_same _ _ _ hq1
      · rw [World.cell?_setCell_other _ _ _ _ (fun e => by injection e with e1 _ _; omega), World.cell?_setCell_other _ _ _ _ (fun e => by injection e with e1 _ _; omega)]; exact r0
      · rw [World.cell?_setCell_other _ _ _ _ (fun e => by injection e with e1 _ _; omega), World.cell?_setCell_other _ _ _ _ (fun e => by injection e with e1 _ _; omega)]; exact r1
    have HB0 := Lib.hid hB0
    clear hB0
    go_wp2_with fail
    (with_reducible refine (pick_any 2 w0 _ g A n c xs _ HB0.out.S (by omega)).mono ?_)
    rintro e w4 ⟨x4, rfl, hx4, hs4, hg4⟩
    have hB4 := HB0.out.drawn hs4 hg4
    obtain ⟨r, hr⟩ : ∃ r : Nat, 8 + x4 = r := ⟨(8 + x4).toNat, by omega⟩
    have hr9 : r ≤ 9 := by omega
    clear hs4 hg4 o0 o1 of0 r0 r1 rf ca0 ca1 fa0 fa1 cb0 cb1 fb0 fb1 HB0
    go_wp2
    go_loopw [5] (fun i wr => ∃ (j : Nat) (a b : Value), j ≤ r ∧ i = .int .i64 ((r : Int) - j) ∧ Hid (BLp w0 w wr g A n c xs (top + 200 + 2 + 2 + 2) w1.heap.size w3.heap.size j j a b)) (fun i _ => (intOf i).toNat)
    case atStart => exact ⟨0, _, _, by omega, by simp, hB4⟩
    case round =>
      obtain ⟨j, a, b, hj, rfl, hb⟩ := hrel
      clear hB4
      by_cases hjr : j < r
      · have hji : (0 : Int) < (r : Int) - j := by omega
        have k0 := hb.out.k0
        have k1 := hb.out.k1
        have kf := hb.out.f
        have ksz := hb.out.sz
        go_wp2_with (first | (at_builtin; refine appT rfl _ _ rfl rfl (own_ext hb.out.oa ((Ext.refl _).alloc _)) (by simp; omega) (by omega) rfl (heap_alloc_new _ _) (ys := [.int .i64 3, .bool true]) (by rfl) (by rfl) (by simp [Value.oneCell']) ?_; intro v1 w5 hown5 hg5 hv5; rw [r3_succ] at hown5; obtain ⟨gg1, cc1, hf1, _, _⟩ := World.ownsRow.form hown5 (by omega); subst hf1; have HM := hb.out.mid hb.out.oa hg5; have m0 := HM.1.1; have m1 := HM.1.2; have mf := HM.2.1.1; have HB5 := Lib.hid (hb.out.appA hown5 hg5 hv5); have hz5 := HB5.out.sz; clear HM k0 k1 kf hown5 hg5 hv5) | (at_builtin; (refine appT rfl _ _ rfl rfl (own_ext HB5.out.ob ((Ext.refl _).alloc _)) (by simp only [World.size_alloc]; omega) (by omega) rfl (heap_set_new _ _ _ _) (ys := [.int .i64 3, .bool true]) (by rfl) (by rfl) (by simp [Value.oneCell']) ?_; intro v2 w6 hown6 hg6 hv6; rw [r3_succ] at hown6; obtain ⟨gg2, cc2, hf2, _, _⟩ := World.ownsRow.form hown6 (by omega); subst hf2; have HM := HB5.out.mid HB5.out.ob hg6; have u0 := HM.1.1; have u1 := HM.1.2; have uf := HM.2.1.1; have HB6 := Lib.hid (HB5.out.appB hown6 hg6 hv6); clear HM m0 m1 mf hown6 hg6 hv6)))
        go_roundw
        case rel => exact ⟨j + 1, _, _, by omega, by congr 1; omega, HB6⟩
        case measure => simp [intOf]; omega
      · obtain rfl : j = r := by omega
        obtain ⟨ra, ca, hra, _, _⟩ := World.ownsRow.form hb.out.oa (by omega)
        obtain ⟨rb, cb, hrb, _, _⟩ := World.ownsRow.form hb.out.ob (by omega)
        subst hra hrb
        have k0 := hb.out.k0
        have k1 := hb.out.k1
        have kf := hb.out.f
        have s0 := hb.out.r0
        have s1 := hb.out.r1
        have sf := hb.out.rf
        have HT := Lib.hid (fun u v : Value => bent_fin (c1 := ca) (d1 := cb) (top' := top + 300) ((ThO.of_own hb.out.oa (r3_len j) (by omega)).lower (by omega)) ((ThO.of_own hb.out.ob (r3_len j) (by omega)).lower (by omega)) (by omega) hb.out.S hb.out.G hlt (by omega) u v)
        have hj0 : ¬ (0 : Int) < (j : Int) - j := by omega
        go_wp2
        exact bodyPost_ret (v := .agg #[.slice (some ⟨ra, 0, none⟩) j ca, .slice (some ⟨rb, 0, none⟩) j cb]) (by simp [results, Try.results36, go_sem, *]) rfl (HT.out _ _)
  · have v0 : (v == 0) = false := beq_eq_false_iff_ne.2 (by omega)
    have v1 : (v == 1) = false := beq_eq_false_iff_ne.2 (by omega)
    have v2 : (v == 2) = false := beq_eq_false_iff_ne.2 (by omega)
    have v3 : (v == 3) = false := beq_eq_false_iff_ne.2 (by omega)
    have HT := Lib.hid (fun u v : Value => bent_fin (c1 := c1) (d1 := d1) (top' := top + 300) (H.out.P.a.tho (by omega)) (H.out.P.b.tho (by omega)) (by omega) H.out.S H.out.G hlt (by omega) u v)
    go_wp2
    exact bodyPost_ret (v := .agg #[.slice (some ⟨ga, 0, none⟩) N c1, .slice (some ⟨gb, 0, none⟩) N d1]) (by simp [results, Try.results36, go_sem, *]) rfl (HT.out _ _)
end Go.Proofs.Ytlalaomimfdepaa
