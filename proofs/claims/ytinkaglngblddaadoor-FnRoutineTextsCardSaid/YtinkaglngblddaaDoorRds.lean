/- Routines out of texts: the contract of the reference's ReadRoutine. No condition but the stated bounds. -/
import Derived.Test.YtinkaglngblddaaDoorRdr
namespace Go.Proofs.YtinkaglngblddaaDoor
set_option linter.unusedVariables false
set_option linter.unusedSimpArgs false
open Go.ChangeShapes Go.WideShapes Go.ChangeAt Go.RowKit Go.Joins Go.Deep

/-- A part's word, whatever its pattern. -/
def wrdw (u : ByteArray) (xs : List Int) (n : Int) : Prop := ∃ a b, Cutd 42 u a b true ∧ xs = hxs a ∧ a.size ≤ 12 ∧ numOk b ∧ n = numV b
def wrdsw (ws : List ByteArray) (ps : List (List Int × Int)) (k : Nat) : Prop := ps.length = k ∧ k ≤ ws.length ∧ ∀ i, i < k → wrdw (gs ws i) (pt ps i) (tm ps i)
theorem wrdsw_vrt {ws : List ByteArray} {ps : List (List Int × Int)} {h : Int} (hw : wrdsw ws ps ws.length) (hv : vrt h ps) : wrds ws ps ws.length := by
  refine ⟨hw.1, Nat.le_refl _, fun i hi => ?_⟩
  obtain ⟨a, b, k1, k2, k3, k4, k5⟩ := hw.2.2 i hi
  exact ⟨a, b, k1, k2, ((vrt_parts hv hw.1).2.2 i hi).1, k4, k5⟩
theorem rdo_badw {s w0 : ByteArray} {ws : List ByteArray} (hs : splB 32 s = w0 :: ws) {h : Int} {ps : List (List Int × Int)} (h1 : hed w0 h) (h2 : wrdsw ws ps ws.length) (h3 : ¬ vrt h ps) {h0 : Int} {q0 : List (List Int × Int)} {r0 : Bool} (hR : Rdo s h0 q0 r0) : h0 = 0 ∧ q0 = [] ∧ r0 = false := by
  rcases hR with ⟨e, hr⟩ | ⟨h1, h2, h3, _⟩
  · exfalso
    obtain ⟨u0, us, k1, ⟨a, k2, k3, k4⟩, k5, k6⟩ := hr
    rw [hs] at k1
    cases k1
    obtain ⟨a', g2, g3, g4⟩ := h1
    obtain ⟨rfl, _⟩ := cut_unique k2 g2
    apply h3
    rw [g4, ← k4]
    have : ps = q0 := by
      apply List.ext_getElem (by rw [k5.1, h2.1])
      intro i i2 i1
      have hi : i < ws.length := by rw [k5.1] at i1; exact i1
      obtain ⟨e1, e2⟩ : pt q0 i = pt ps i ∧ tm q0 i = tm ps i := by
        obtain ⟨a, b, j1, j2, _, _, j5⟩ := k5.2.2 i hi
        obtain ⟨a', b', l1, l2, _, _, l5⟩ := h2.2.2 i hi
        obtain ⟨rfl, rfl⟩ := cut_unique j1 l1
        exact ⟨by rw [j2, l2], by rw [j5, l5]⟩
      have p1 : pt q0 i = q0[i].1 := by unfold pt; rw [List.getElem?_eq_getElem i1]; rfl
      have p2 : pt ps i = ps[i].1 := by unfold pt; rw [List.getElem?_eq_getElem i2]; rfl
      have p3 : tm q0 i = q0[i].2 := by unfold tm; rw [List.getElem?_eq_getElem i1]; rfl
      have p4 : tm ps i = ps[i].2 := by unfold tm; rw [List.getElem?_eq_getElem i2]; rfl
      rw [p1, p2] at e1
      rw [p3, p4] at e2
      exact Prod.ext e1.symm e2.symm
    rw [this]
    exact k6
  · exact ⟨h2, h3, h1⟩
/-- A word of which the parts are not two is none. -/
theorem wrd_two {u : ByteArray} {xs : List Int} {n : Int} (h : wrd u xs n) : ∃ a b, splB 42 u = [a, b] ∧ a.size ≤ 12 := by
  obtain ⟨a, b, k1, k2, k3, k4, _⟩ := h
  refine ⟨a, b, ?_, ?_⟩
  · have h1 := cutd_spl k1
    rw [if_pos rfl, splB_none (numOk_byte k4 (by decide) (by decide))] at h1
    exact h1
  · have := (thr_iff.1 (vpat_thr k3)).2
    rw [k2, hxs_len] at this
    omega
theorem first_at {u : ByteArray} {c : UInt8} (hn : ¬ noB u c 0 u.size) : ∃ k : Nat, u.data[k]? = some c ∧ noB u c 0 k := by
  have hex : ∃ k : Nat, u.data[k]? = some c := by
    refine Classical.byContradiction fun hc => hn fun j _ _ he => hc ⟨j, he⟩
  obtain ⟨k0, h0⟩ := hex
  induction k0 using Nat.strongRecOn with
  | _ k0 ih =>
    by_cases hc : ∃ j : Nat, j < k0 ∧ u.data[j]? = some c
    · obtain ⟨j, hj, hj2⟩ := hc
      exact ih j hj hj2
    · exact ⟨k0, h0, fun j _ hj he => hc ⟨j, hj, he⟩⟩
theorem two_cut {u a b : ByteArray} (h : splB 42 u = [a, b]) : Cutd 42 u a b true := by
  by_cases hn : noB u 42 0 u.size
  · rw [splB_none hn] at h
    cases h
  · obtain ⟨k, hk, hno⟩ := first_at hn
    have h1 := splB_at hk hno
    rw [h] at h1
    injection h1 with h2 h3
    refine .inl ⟨rfl, k, hk, hno, h2, ?_⟩
    by_cases hn2 : noB (u.extract (k + 1) u.size) 42 0 (u.extract (k + 1) u.size).size
    · rw [splB_none hn2] at h3
      injection h3
    · exfalso
      obtain ⟨j, hj, hj2⟩ := first_at hn2
      have h4 := splB_at hj hj2
      rw [← h3] at h4
      injection h4 with _ h5
      have h6 := (splB_len 42 ((u.extract (k + 1) u.size).extract (j + 1) (u.extract (k + 1) u.size).size)).1
      rw [← h5] at h6
      simp at h6
/-- The head's word. -/
theorem hed_iff {u : ByteArray} {n : Nat} (hn : u.size = n + 1) (hl : u.data[n]? = some 58) (h : Int) : hed u h ↔ numOk (u.extract 0 n) ∧ h = numV (u.extract 0 n) := by
  constructor
  · rintro ⟨a, k1, k2, k3⟩
    obtain ⟨k, hk, hno, rfl, he⟩ := cut_true k1
    have hlt : k < u.size := (Array.getElem?_eq_some_iff.1 hk).1
    have : k = n := by
      have h1 : (0 : Nat) = (u.extract (k + 1) u.size).size := congrArg ByteArray.size he
      rw [ByteArray.size_extract] at h1
      omega
    subst this
    exact ⟨k2, k3⟩
  · rintro ⟨k2, k3⟩
    have hno : noB u 58 0 n := by
      have h1 := numOk_byte k2 (c := 58) (by decide) (by decide)
      intro j h2 h3 he
      refine h1 j h2 (by rw [ByteArray.size_extract]; omega) ?_
      rw [ByteArray.data_extract, Array.getElem?_extract, if_pos (by have h9 : u.data.size = u.size := rfl; omega), Nat.zero_add]
      exact he
    refine ⟨_, .inl ⟨rfl, n, hl, hno, rfl, ?_⟩, k2, k3⟩
    apply ByteArray.ext
    rw [ByteArray.data_extract, hn]
    exact (Array.eq_empty_of_size_eq_zero (by simp; omega)).symm
theorem hed_last {u : ByteArray} {h : Int} (hh : hed u h) : 2 ≤ u.size ∧ u.data[u.size - 1]? = some 58 := by
  obtain ⟨a, k1, k2, k3⟩ := hh
  obtain ⟨k, hk, hno, rfl, he⟩ := cut_true k1
  have hlt : k < u.size := (Array.getElem?_eq_some_iff.1 hk).1
  have h1 : (0 : Nat) = (u.extract (k + 1) u.size).size := congrArg ByteArray.size he
  rw [ByteArray.size_extract] at h1
  have h2 := k2.1.1
  have h3 : 1 ≤ (u.extract 0 k).size := by
    unfold numT at h2
    split at h2
    · rw [ByteArray.size_extract] at h2; omega
    · exact h2
  rw [ByteArray.size_extract] at h3
  refine ⟨by omega, ?_⟩
  rw [show u.size - 1 = k by omega]
  exact hk
theorem HoldsE {cs : List (Addr × Value)} {w w' : World} (h : Holds cs w) (k : Ext w w') : Holds cs w' := fun c hc => (Below.cell k (World.block_lt_of_cell? w c.1 (h c hc))).trans (h c hc)
theorem HoldsG {cs : List (Addr × Value)} {w w' : World} {row : Option Nat} (h : Holds cs w) (k : w.grownBy w' row) (hne : ∀ c ∈ cs, some c.1.block ≠ row) : Holds cs w' := fun c hc => (k.cell_far c.1 (World.block_lt_of_cell? w c.1 (h c hc)) (hne c hc)).trans (h c hc)
/-- 'append(parts, part)' at a step of a region that draws, for long lists. -/
theorem stepPl {W : World} {ops : Array Oper} {o : Oper} {a : Act} {K : Act → World → Prop} {Q : Exit → Act → World → Prop} {E : Prop} (hgd : o.guard = none) (s x : Operand)
    (ho : o.op = .call { callee := .builtin .append, args := #[s, x], argTypes := #[27, 27] }) {lo hi : Nat} {A : Option Addr} {n c : Nat} {ps : List (List Int × Int)} (hs : a.eval s = .slice A n c) (hown : PRow W lo hi A n c ps) (hn : n ≤ 4000000)
    {b : Nat} (hx : a.eval x = .slice (some ⟨b, 0, none⟩) 1 1) {ar : Array Value} {t' : TypeId} {fr : Nat × Nat} (hB : W.heap[b]? = some (.cells ar t' fr)) {lo2 hi2 : Nat} {B : Option Addr} {m d : Nat} {xs : List Int} {t : Int} (hc : ar.toList = [.slice B m d, .int .i64 t]) (R : Row W lo2 hi2 2 1 B m d xs) (hm : xs.length = m)
    (h1 : hi ≤ lo2) (h2 : hi2 ≤ W.heap.size) (h0 : lo ≤ lo2) (h3 : lo2 ≤ hi2)
    (h : ∀ A' c' w', PRow w' lo w'.heap.size A' (n + 1) c' (ps ++ [(xs, t)]) → W.grownBy w' (A.map (·.block)) → K (a.put o.dst (.slice A' (n + 1) c')) w') :
    if Region.wanted o (yielded ops a.tmps) = true then Oper.wp Tryd.prog o a W K Q else E := by
  have hw : Region.wanted o (yielded ops a.tmps) = true := by simp [Region.wanted, hgd]
  rw [if_pos hw]
  obtain ⟨i, z, hi', hz0, hz1, hz2, hz3⟩ := elPart
  obtain ⟨H, hF⟩ := hown.rows
  obtain ⟨cs, hr, hcc⟩ := hF.row
  obtain ⟨v', w', hrun, k2, k3, _, k5⟩ := run_append_own_at (P := Tryd.prog) W lo 27 o.type 52 i z 2 32 Tryd.underlying27 hi' hz0 hz1 hz2 hz3 (by omega) (.slice A n c) n _ hr.own ⟨b, 0, none⟩ 1 1 [.slice B m d, .int .i64 t] rfl (newsG hB hc) (by intro u hu; simp at hu; rcases hu with rfl | rfl <;> rfl) (by unfold maxLen; omega) (by omega) (by omega)
  unfold Oper.wp execOp
  simp only [ho, resolve, invoke, builtin, Sem.run_bind, Sem.run_pure, Result.andThen_ok, List.map_toArray, List.map_cons, List.map_nil, hs, hx, hrun]
  obtain ⟨A', c', rfl⟩ : ∃ A' c', v' = .slice A' (n + 1) c' := by
    rcases ownsRow_forms k2 with ⟨rfl, e0⟩ | ⟨g, cap, rfl⟩
    · omega
    · exact ⟨_, _, rfl⟩
  have k3' : W.grownBy w' (A.map (·.block)) := by cases A <;> exact k3
  refine h _ _ _ (PRow.push hown.len hr hcc hF (by omega) R hm h1 h2 h0 k2 k3' ?_) k3'
  cases A <;> cases A' <;> exact k5
theorem rdo_empty {s w0 : ByteArray} {ws : List ByteArray} (hs : splB 32 s = w0 :: ws) (h : ws.length = 0) {h0 : Int} {q0 : List (List Int × Int)} {r0 : Bool} (hR : Rdo s h0 q0 r0) : h0 = 0 ∧ q0 = [] ∧ r0 = false := by
  rcases hR with ⟨_, u0, us, h1, _, h2, h3⟩ | ⟨h1, h2, h3, _⟩
  · rw [hs] at h1
    cases h1
    have h4 := (vrt_parts h3 h2.1).2.1
    omega
  · exact ⟨h2, h3, h1⟩
/-- What the reference's loop knows behind k words. -/
structure SpI (ws : List ByteArray) (w0 : ByteArray) (n1 h0 : Int) (q0 : List (List Int × Int)) (r0 : Bool) (ps : List (List Int × Int)) (k : Nat) (rn : Bool) : Prop where
  len : ps.length = k
  yes : rn = true → hed w0 n1 ∧ wrdsw ws ps k
  no : rn = false → h0 = 0 ∧ q0 = [] ∧ r0 = false
  bds : ∀ i, i < k → (pt ps i).length ≤ 1048576 ∧ (∀ y ∈ pt ps i, -9223372036854775808 ≤ y ∧ y ≤ 9223372036854775807) ∧ -9223372036854775808 ≤ tm ps i ∧ tm ps i ≤ 9223372036854775807
theorem SpI.push {ws : List ByteArray} {w0 u a t : ByteArray} {n1 h0 n2 : Int} {q0 ps : List (List Int × Int)} {r0 rn rn2 : Bool} {k : Nat} (h : SpI ws w0 n1 h0 q0 r0 ps k rn) (hk : k < ws.length) (hu : gs ws k = u) (hv : splB 42 u = [a, t]) (ha : a.size ≤ 12) (hn : Nmb t n2 rn2)
    (hw : ∀ u, gs ws k = u → (∀ xs n, ¬ wrd u xs n) → h0 = 0 ∧ q0 = [] ∧ r0 = false) : SpI ws w0 n1 h0 q0 r0 (ps ++ [(hxs a, n2)]) (k + 1) (rn && rn2) := by
  have hl := h.len
  have hc := two_cut hv
  have self : pt (ps ++ [(hxs a, n2)]) k = hxs a ∧ tm (ps ++ [(hxs a, n2)]) k = n2 := ⟨by unfold pt; simp [hl], by unfold tm; simp [hl]⟩
  have other : ∀ i, i < k → pt (ps ++ [(hxs a, n2)]) i = pt ps i ∧ tm (ps ++ [(hxs a, n2)]) i = tm ps i := fun i hi => ⟨by unfold pt; rw [List.getElem?_append_left (by omega)], by unfold tm; rw [List.getElem?_append_left (by omega)]⟩
  refine ⟨by simp [hl], fun e => ?_, fun e => ?_, fun i hi => ?_⟩
  · rw [Bool.and_eq_true] at e
    obtain ⟨e1, e2⟩ := h.yes e.1
    refine ⟨e1, by simp [hl], by omega, fun i hi => ?_⟩
    by_cases e3 : i = k
    · subst e3
      rw [self.1, self.2, hu]
      rcases hn with ⟨_, k1, k2⟩ | ⟨e4, _⟩
      · exact ⟨a, t, hc, rfl, ha, k1, k2⟩
      · rw [e.2] at e4; cases e4
    · rw [(other i (by omega)).1, (other i (by omega)).2]
      exact e2.2.2 i (by omega)
  · cases rn
    · exact h.no rfl
    · rw [Bool.true_and] at e
      refine hw u hu (fun xs n hh => ?_)
      obtain ⟨a', t', k1, _, _, k2, _⟩ := hh
      obtain ⟨_, rfl⟩ := cut_unique hc k1
      rcases hn with ⟨e4, _⟩ | ⟨_, e4, _⟩
      · rw [e] at e4; cases e4
      · exact e4 k2
  · by_cases e3 : i = k
    · subst e3
      rw [self.1, self.2]
      have := nmb_bd hn
      exact ⟨by rw [hxs_len]; omega, hxs_bd a, by omega, by omega⟩
    · rw [(other i (by omega)).1, (other i (by omega)).2]
      exact h.bds i (by omega)
theorem l01Split_sp (s : ByteArray) (w : World) (hs : s.size ≤ 2000000) : Calls Tryd.prog 29 #[.string s, .int .u8 32] w (RetS w (splB 32 s).length (splB 32 s)) := l01Split_any 32 s w hs
theorem l01Split_st (s : ByteArray) (w : World) (hs : s.size ≤ 2000000) : Calls Tryd.prog 29 #[.string s, .int .u8 42] w (RetS w (splB 42 s).length (splB 42 s)) := l01Split_any 42 s w hs
set_option maxHeartbeats 8000000 in
set_option maxRecDepth 100000 in
theorem specReadRoutine_any (s : ByteArray) (w : World) (hs : s.size ≤ 1048576) (h0 : Int) (q0 : List (List Int × Int)) (r0 : Bool) (hR : Rdo s h0 q0 r0) :
    Calls Tryd.prog 11 #[.string s] w (RetRd w h0 q0 r0) := by
  have hRB := heap_alloc_new w (.cells #[.int .i64 0, .slice none 0 0] 29)
  obtain ⟨w0, ws, hsp⟩ : ∃ w0 ws, splB 32 s = w0 :: ws := by
    have := (splB_len 32 s).1
    cases hq : splB 32 s with
    | nil => rw [hq] at this; simp at this
    | cons a b => exact ⟨a, b, rfl⟩
  have hszs := splB_szs (c := 32) (s := s) (N := 2000000) (by omega)
  have hlen := splB_len 32 s
  rw [hsp] at hszs hlen
  have HSP := Lib.hid hsp
  have HR := Lib.hid hR
  clear hsp hR
  have hw0 := hszs w0 (by simp)
  go_enter Tryd.func11, Tryd.ntmps11
  go_wp2_with fail
  (with_reducible refine (l01Split_sp s _ (by omega)).mono ?_)
  rintro e w1 ⟨A, c, rfl, hrow, hx1⟩
  rw [HSP.out] at hrow ⊢
  have hS := hrow.strs (by omega) (fun t ht => by have := hszs t ht; omega)
  have hR1 := blkE hRB hx1
  have hE1 : Ext w w1 := Ext.trans (by with_reducible (repeat (first | exact Ext.refl _ | apply Ext.drewN | apply Ext.drew | apply Ext.alloc | (refine Ext.set ?_ (by first | (simp; done) | (simp; omega) | omega) _) | (refine Ext.trans ?_ (by assumption))))) hx1
  have hz1 : w.heap.size < w1.heap.size := by have := hx1.size; simp at this; omega
  clear hRB hx1 hrow
  obtain ⟨b, off, rfl, hb, hcell⟩ := hS.at_ (by simp)
  have c0 := hcell 0 (by simp)
  have hCELL := Lib.hid hcell
  clear hcell hS
  have c0' : w1.cell? ⟨b, off, none⟩ = some (.string w0) := c0
  have c0 : w1.cell? ⟨b, off + 0, none⟩ = some (.string w0) := c0
  have hlenm : ws.length + 1 ≤ s.size + 1 := hlen.2
  have hln : (w0 :: ws).length = ws.length + 1 := rfl
  rw [hln] at *
  have hl0 : (0 : Int) < ((ws.length + 1 : Nat) : Int) := by omega
  generalize hwn : ws.length = m at *
  by_cases hm0 : m = 0
  · have hno := rdo_empty HSP.out (by omega) HR.out
    obtain ⟨rfl, rfl, rfl⟩ := hno
    have hl3 : ((m : Nat) : Int) + 1 < 2 := by omega
    clear hm0
    obtain ⟨⟨x0, x1⟩, f0, f1⟩ := blk2R hR1
    have HX := Lib.hid (fun u v : Value => ((hE1).set (p := ⟨w.heap.size, 0, none⟩) (Nat.le_refl _) u).set (p := ⟨w.heap.size, 1, none⟩) (Nat.le_refl _) v)
    go_wp2
    exact bodyPost_ret (v := .tuple #[.agg #[.int .i64 0, .slice none 0 0], .bool false]) (by simp [results, Tryd.results11, go_sem, *]) rfl ⟨none, 0, rfl, PRow.nil _ _ _, HX.out _ _⟩
  by_cases hs2 : w0.size < 2
  · have hno := rdo_head HSP.out HR.out (fun h hh => by have := (hed_last hh).1; omega)
    obtain ⟨rfl, rfl, rfl⟩ := hno
    have hl3 : ¬ ((m : Nat) : Int) + 1 < 2 := by omega
    have hl3' : (2 : Int) ≤ (m : Int) + 1 := by omega
    have hl4 : (w0.size : Int) < 2 := by omega
    clear hm0 hs2
    obtain ⟨⟨x0, x1⟩, f0, f1⟩ := blk2R hR1
    have HX := Lib.hid (fun u v : Value => ((hE1).set (p := ⟨w.heap.size, 0, none⟩) (Nat.le_refl _) u).set (p := ⟨w.heap.size, 1, none⟩) (Nat.le_refl _) v)
    go_wp2
    exact bodyPost_ret (v := .tuple #[.agg #[.int .i64 0, .slice none 0 0], .bool false]) (by simp [results, Tryd.results11, go_sem, *]) rfl ⟨none, 0, rfl, PRow.nil _ _ _, HX.out _ _⟩
  have hl3 : ¬ ((m : Nat) : Int) + 1 < 2 := by omega
  have hl3' : (2 : Int) ≤ (m : Int) + 1 := by omega
  obtain ⟨n, hn⟩ : ∃ n : Nat, w0.size = n + 1 := ⟨w0.size - 1, by omega⟩
  have hl4 : ¬ ((n : Nat) : Int) + 1 < 2 := by omega
  have hl4' : (2 : Int) ≤ (n : Int) + 1 := by omega
  have hnlt : n < w0.size := by omega
  have hbn := byte_at hnlt
  obtain ⟨x, hxx⟩ : ∃ x, w0[n] = x := ⟨_, rfl⟩
  rw [hxx] at hbn
  have HBN := Lib.hid hbn
  clear hbn
  by_cases hx58 : x = 58
  rotate_left
  · have hno := rdo_head HSP.out HR.out (fun h hh => by
      have h1 := (hed_last hh).2
      rw [show w0.size - 1 = n by omega, HBN.out] at h1
      exact hx58 (Option.some.inj h1))
    obtain ⟨rfl, rfl, rfl⟩ := hno
    have e58 : ((((x.toNat : Nat) : Int)) != 58) = true := by
      have h1 : x.toNat ≠ 58 := fun e => hx58 (UInt8.toNat_inj.1 e)
      simp; omega
    clear hm0 hs2
    obtain ⟨⟨x0, x1⟩, f0, f1⟩ := blk2R hR1
    have HX := Lib.hid (fun u v : Value => ((hE1).set (p := ⟨w.heap.size, 0, none⟩) (Nat.le_refl _) u).set (p := ⟨w.heap.size, 1, none⟩) (Nat.le_refl _) v)
    go_wp2
    exact bodyPost_ret (v := .tuple #[.agg #[.int .i64 0, .slice none 0 0], .bool false]) (by simp [results, Tryd.results11, go_sem, *]) rfl ⟨none, 0, rfl, PRow.nil _ _ _, HX.out _ _⟩
  subst hx58
  have HHD := fun h => hed_iff hn HBN.out h
  obtain ⟨hd, hhd⟩ : ∃ hd, w0.extract 0 n = hd := ⟨_, rfl⟩
  rw [hhd] at HHD
  have hdz : hd.size ≤ 2000000 := by rw [← hhd, ByteArray.size_extract]; omega
  have HHD := Lib.hid HHD
  have HDD := Lib.hid hhd
  clear hhd
  obtain ⟨n1, rn1, hnm⟩ := nmb_ex hd
  have hnb := nmb_bd hnm
  have HG : Hid ((rn1 = true → hed w0 n1) ∧ (rn1 = false → h0 = 0 ∧ q0 = [] ∧ r0 = false)) := by
    refine ⟨fun e => ?_, fun e => ?_⟩
    · rcases hnm with ⟨_, k1, k2⟩ | ⟨e', _⟩
      · exact (HHD.out _).2 ⟨k1, k2⟩
      · rw [e] at e'; cases e'
    · rcases hnm with ⟨e', _⟩ | ⟨_, k1, _⟩
      · rw [e] at e'; cases e'
      · exact rdo_head HSP.out HR.out (fun h hh => k1 ((HHD.out h).1 hh).1)
  have HNM := Lib.hid hnm
  clear hnm hm0 hs2
  have f58 : ((((58 : UInt8).toNat : Nat) : Int) != 58) = false := rfl
  go_wp2_with fail
  rw [HDD.out]
  (with_reducible refine (specNumber_is hd _ hdz n1 rn1 HNM.out).mono ?_)
  rintro e w2 ⟨rfl, hx2⟩
  have hp2 : Ext w1 w2 := Ext.trans (by with_reducible (repeat (first | exact Ext.refl _ | apply Ext.drewN | apply Ext.drew | apply Ext.alloc | (refine Ext.set ?_ (by first | (simp; done) | (simp; omega) | omega) _) | (refine Ext.trans ?_ (by assumption))))) hx2
  have hE2 := hE1.trans hp2
  have hR2 := blkE hR1 hp2
  have hb2 : b < w2.heap.size := Nat.lt_of_lt_of_le hb hp2.size
  have hO2 := heap_alloc_new w2 (.cells #[.int .i64 n1, .slice none 0 0] 29)
  clear hx2 c0 c0' f58 hxx hn hl3 hl3' hl4 hl4' hnlt HBN HHD HDD HNM
  go_wp2
  go_loopw [7, 9] (fun okv i wr => ∃ (k : Nat) (rn : Bool) (ps : List (List Int × Int)) (A1 : Option Addr) (c1 : Nat), k ≤ m ∧ i = .int .i64 ((k + 1 : Nat) : Int) ∧ okv = .bool rn ∧ Ext w2 wr ∧ Hid (Outs wr w2.heap.size (w2.heap.size + 1) n1 k ps A1 c1) ∧ Hid (SpI ws w0 n1 h0 q0 r0 ps k rn)) (fun _ i _ => m + 1 - (intOf i).toNat)
  case atStart => exact ⟨0, rn1, [], none, 0, Nat.zero_le _, rfl, rfl, (Ext.refl _).alloc _, ⟨(blk2R hO2).1.1, (blk2R hO2).1.2, fun o => unfrozen_of_block hO2 o, Nat.lt_succ_self _, by simp, PRow.nil _ _ _⟩, ⟨rfl, fun e => ⟨HG.out.1 e, rfl, Nat.zero_le _, fun i hi => absurd hi (Nat.not_lt_zero _)⟩, HG.out.2, fun i hi => absurd hi (Nat.not_lt_zero _)⟩⟩
  case round =>
    obtain ⟨k, rn, ps, A1, c1, hk, rfl, rfl, hx, HO, HW⟩ := hrel
    have hRr := blkE hR2 hx
    by_cases hlt : k < m
    · have hki : (k : Int) + 1 < (m : Int) + 1 := by omega
      have hki0 : (0 : Int) ≤ (k : Int) + 1 := by omega
      have hki2 : ((k + 1 : Nat) : Int) < ((m + 1 : Nat) : Int) := by omega
      have hkn : k + 1 < m + 1 := by omega
      have hx1r : Ext w1 wr := hp2.trans hx
      have hb3 : b < wr.heap.size := Nat.lt_of_lt_of_le hb2 hx.size
      have cu : wr.cell? ⟨b, off + (k + 1), none⟩ = some (.string (gs ws k)) := hx1r.cell hb (hCELL.out (k + 1) (by show k + 1 < ws.length + 1; omega))
      have hus : (gs ws k).size ≤ 2000000 := hszs _ (List.mem_cons_of_mem _ (gs_mem (by omega)))
      have HWRD : Hid (∀ u, gs ws k = u → (∀ xs n, ¬ wrd u xs n) → h0 = 0 ∧ q0 = [] ∧ r0 = false) := fun u hu hn => rdo_word HSP.out HR.out (k := k) (by omega) (by rw [hu]; exact hn)
      obtain ⟨u, hu⟩ : ∃ u, gs ws k = u := ⟨_, rfl⟩
      rw [hu] at cu hus
      have HU := Lib.hid hu
      clear hu
      have hOle := HO.out.le
      obtain ⟨vs, hvs⟩ : ∃ vs, splB 42 u = vs := ⟨_, rfl⟩
      have hvz := splB_szs (c := 42) (s := u) hus
      have hvl := splB_len 42 u
      rw [hvs] at hvz hvl
      have HVS := Lib.hid hvs
      clear hvs
      go_wp2_with fail
      (with_reducible refine (l01Split_st u _ hus).mono ?_)
      rintro e w3 ⟨Av, cv, rfl, hrow, hx3⟩
      rw [HVS.out] at hrow ⊢
      have hp3 : Ext wr w3 := Ext.trans (by with_reducible (repeat (first | exact Ext.refl _ | apply Ext.drewN | apply Ext.drew | apply Ext.alloc | (refine Ext.set ?_ (by first | (simp; done) | (simp; omega) | omega) _) | (refine Ext.trans ?_ (by assumption))))) hx3
      have hSv := hrow.strs (by omega) (fun t ht => by have := hvz t ht; omega)
      obtain ⟨bv, ov, rfl, hbv, hcv⟩ := hSv.at_ (by omega)
      have hbvlo : wr.heap.size ≤ bv := (hrow.row_bd bv rfl).1
      have d0 := hcv 0 (by omega)
      have hR3 := blkE hRr hp3
      clear hrow hx3 cu hRr
      by_cases h2 : vs.length = 2
      rotate_left
      · have hno := HWRD.out u HU.out (fun xs n hh => by
          obtain ⟨a, t, k1, _⟩ := wrd_two hh
          rw [HVS.out] at k1
          rw [k1] at h2
          exact h2 rfl)
        obtain ⟨rfl, rfl, rfl⟩ := hno
        have e2 : ((((vs.length : Nat) : Int)) != 2) = true := by simp; omega
        obtain ⟨⟨x0, x1⟩, f0, f1⟩ := blk2R hR3
        have HX := Lib.hid (fun u v : Value => (((hE2.trans hx).trans hp3).set (p := ⟨w.heap.size, 0, none⟩) (Nat.le_refl _) u).set (p := ⟨w.heap.size, 1, none⟩) (Nat.le_refl _) v)
        clear hR3 HWRD hvz hvl hSv hcv d0
        go_wp2
        exact bodyPost_ret (v := .tuple #[.agg #[.int .i64 0, .slice none 0 0], .bool false]) (by simp [results, Tryd.results11, go_sem, *]) rfl ⟨none, 0, rfl, PRow.nil _ _ _, HX.out _ _⟩
      obtain ⟨a, t, rfl⟩ : ∃ a t, vs = [a, t] := by
        match vs, h2 with
        | [a, t], _ => exact ⟨a, t, rfl⟩
      have d1 := hcv 1 (by omega)
      have d0' : w3.cell? ⟨bv, ov, none⟩ = some (.string a) := d0
      have d1' : w3.cell? ⟨bv, ov + 1, none⟩ = some (.string t) := d1
      have haz : a.size ≤ 2000000 := hvz a (by simp)
      have htz : t.size ≤ 2000000 := hvz t (by simp)
      clear d0 d1 hcv hSv hvl h2 hvz
      have hl22 : ([a, t] : List ByteArray).length = 2 := rfl
      rw [hl22]
      by_cases ha12 : a.size ≤ 12
      rotate_left
      · have hno := HWRD.out u HU.out (fun xs n hh => by
          obtain ⟨a', t', k1, k2⟩ := wrd_two hh
          rw [HVS.out] at k1
          cases k1
          omega)
        obtain ⟨rfl, rfl, rfl⟩ := hno
        have e2 : (12 : Int) < (a.size : Int) := by omega
        obtain ⟨⟨x0, x1⟩, f0, f1⟩ := blk2R hR3
        have HX := Lib.hid (fun u v : Value => (((hE2.trans hx).trans hp3).set (p := ⟨w.heap.size, 0, none⟩) (Nat.le_refl _) u).set (p := ⟨w.heap.size, 1, none⟩) (Nat.le_refl _) v)
        clear hR3 HWRD
        go_wp2
        exact bodyPost_ret (v := .tuple #[.agg #[.int .i64 0, .slice none 0 0], .bool false]) (by simp [results, Tryd.results11, go_sem, *]) rfl ⟨none, 0, rfl, PRow.nil _ _ _, HX.out _ _⟩
      have e12 : ¬ (12 : Int) < (a.size : Int) := by omega
      have ha1000 : a.size ≤ 1000 := by omega
      obtain ⟨n2, rn2, hnm⟩ := nmb_ex t
      have HNM := Lib.hid hnm
      clear hnm
      go_wp2_with fail
      (with_reducible refine (specNumber_is t _ htz n2 rn2 HNM.out).mono ?_)
      rintro e w4 ⟨rfl, hx4⟩
      have hp34 : Ext w3 w4 := Ext.trans (by with_reducible (repeat (first | exact Ext.refl _ | apply Ext.drewN | apply Ext.drew | apply Ext.alloc | (refine Ext.set ?_ (by first | (simp; done) | (simp; omega) | omega) _) | (refine Ext.trans ?_ (by assumption))))) hx4
      have hp4 : Ext wr w4 := hp3.trans hp34
      have d0 : w4.cell? ⟨bv, ov, none⟩ = some (.string a) := hp34.cell hbv d0'
      have hbv4 : bv < w4.heap.size := Nat.lt_of_lt_of_le hbv hp34.size
      have HW2 : Hid (SpI ws w0 n1 h0 q0 r0 (ps ++ [(hxs a, n2)]) (k + 1) (rn && rn2)) := SpI.push HW.out (by omega) HU.out HVS.out ha12 HNM.out HWRD.out
      have hO4 := HO.out.ext hp4
      have oc1 := hO4.c1
      have of1 := hO4.fz
      have oz := hO4.le
      have hsz4 := hp4.size
      have HO4 := Lib.hid hO4
      have HP4 := Lib.hid (HO.out.P.ext hp4)
      have hR4 := blkE hR3 hp34
      have hBlw : ∀ cc ∈ ([(⟨w2.heap.size, 1, none⟩, .slice A1 k c1), (⟨bv, ov, none⟩, .string a)] : List (Addr × Value)), some cc.1.block ≠ A1.map (·.block) := by
        obtain ⟨H, hF⟩ := HO.out.P.rows
        obtain ⟨cs, hr, _⟩ := hF.row
        intro cc hcc e
        have hrb := hr.row_bd _ e.symm
        simp only [List.mem_cons, List.not_mem_nil, or_false] at hcc
        rcases hcc with rfl | rfl
        · have : w2.heap.size + 1 ≤ w2.heap.size := hrb.1; omega
        · have : bv < wr.heap.size := hrb.2; omega
      clear hO4 hx4 d0' d1' hR3 HNM HVS HWRD hl22 e12
      cases rn
      all_goals
        go_upto_region 15 with fail
        refine wp_region_late 11 1 8 (Holds [(⟨w2.heap.size, 1, none⟩, .slice A1 k c1), (⟨bv, ov, none⟩, .string a)]) rfl (by kernel_rfl) (by kernel_rfl) (by (simp only [Holds_cons, Holds_nil, and_true]); exact ⟨oc1, d0⟩) (fun hHeld => ?_)
        refine wpAnyH_take (i := 0) (v := ?_) rfl (by kernel_rfl) (by kernel_rfl) (by kernel_rfl) (fun _ _ _ h => h) (Or.inl ⟨by rfl, ?hyh1⟩) hHeld ?_
        case hyh1 => ((intro wz hSw); (simp only [Holds_cons, Holds_nil, and_true] at hSw); (obtain ⟨_, _⟩ := hSw); go_simp; (try with_reducible rfl))
        (try simp only [List.getElem_toArray, List.getElem_cons_succ, List.getElem_cons_zero, Act.put, List.setIfInBounds_toArray, List.set_cons_zero, List.set_cons_succ])
        refine wpAnyH_take (i := 1) (v := ?_) rfl (by kernel_rfl) (by kernel_rfl) (by kernel_rfl) (fun _ _ _ h => h) (Or.inl ⟨by rfl, ?hyh2⟩) hHeld ?_
        case hyh2 => ((intro wz hSw); (simp only [Holds_cons, Holds_nil, and_true] at hSw); (obtain ⟨_, _⟩ := hSw); go_simp; (try with_reducible rfl))
        (try simp only [List.getElem_toArray, List.getElem_cons_succ, List.getElem_cons_zero, Act.put, List.setIfInBounds_toArray, List.set_cons_zero, List.set_cons_succ])
        refine wpAnyH_take (i := 2) (v := ?_) rfl (by kernel_rfl) (by kernel_rfl) (by kernel_rfl) (fun _ _ _ h => h) (Or.inl ⟨by rfl, ?hyh3⟩) hHeld ?_
        case hyh3 => ((intro wz hSw); (simp only [Holds_cons, Holds_nil, and_true] at hSw); (obtain ⟨_, _⟩ := hSw); go_simp; (try with_reducible rfl))
        (try simp only [List.getElem_toArray, List.getElem_cons_succ, List.getElem_cons_zero, Act.put, List.setIfInBounds_toArray, List.set_cons_zero, List.set_cons_succ])
        refine wpAnyH_take (i := 3) (v := ?_) rfl (by kernel_rfl) (by kernel_rfl) (by kernel_rfl) (fun _ _ _ h => h) (Or.inl ⟨by rfl, ?hyh4⟩) hHeld ?_
        case hyh4 => ((intro wz hSw); (simp only [Holds_cons, Holds_nil, and_true] at hSw); (obtain ⟨_, _⟩ := hSw); go_simp; (try with_reducible rfl))
        (try simp only [List.getElem_toArray, List.getElem_cons_succ, List.getElem_cons_zero, Act.put, List.setIfInBounds_toArray, List.set_cons_zero, List.set_cons_succ])
        refine wpAnyH_take (i := 4) (v := ?_) rfl (by kernel_rfl) (by kernel_rfl) (by kernel_rfl) (fun _ _ _ h => h) (Or.inl ⟨by rfl, ?hyh5⟩) hHeld ?_
        case hyh5 => ((intro wz hSw); (simp only [Holds_cons, Holds_nil, and_true] at hSw); (obtain ⟨_, _⟩ := hSw); go_simp; (try with_reducible rfl))
        (try simp only [List.getElem_toArray, List.getElem_cons_succ, List.getElem_cons_zero, Act.put, List.setIfInBounds_toArray, List.set_cons_zero, List.set_cons_succ])
        refine wpAnyH_take (i := 6) (v := ?_) rfl (by kernel_rfl) (by kernel_rfl) (by kernel_rfl) (fun _ _ _ h => h) (Or.inl ⟨by rfl, ?hyh6⟩) hHeld ?_
        case hyh6 => ((intro wz hSw); (simp only [Holds_cons, Holds_nil, and_true] at hSw); (obtain ⟨_, _⟩ := hSw); go_simp; (try with_reducible rfl))
        (try simp only [List.getElem_toArray, List.getElem_cons_succ, List.getElem_cons_zero, Act.put, List.setIfInBounds_toArray, List.set_cons_zero, List.set_cons_succ])
        refine wpAnyH_ready (rs := [5]) (by kernel_rfl) (by simp) ?_
        refine AllReadyH.cons rfl (fun K hK => ?_) AllReadyH.nil
        go_simp
        (with_reducible refine (l02Read_is a _ ha1000).mono ?_)
        rintro e w5 ⟨Ap, cp, rfl, hown⟩
        (try go_wp2_with fail)
        have hp5 : Ext w4 w5 := (show Ext w4 w4.drew from (Ext.refl _).drew).trans hown.ext
        have R5 := Row.of_own hown rfl
        have hsz5 := hp5.size
        have hext5 := hown.ext
        clear hown
        refine hK.out _ _ (HoldsE hHeld hext5) (fun hHeldN => ?_)
        clear hK K hHeld
        have hHeld := hHeldN
        clear hHeldN
        (try simp only [List.getElem_toArray, List.getElem_cons_succ, List.getElem_cons_zero, Act.put, List.setIfInBounds_toArray, List.set_cons_zero, List.set_cons_succ])
        refine wpAnyH_take (i := 7) (v := ?_) rfl (by kernel_rfl) (by kernel_rfl) (by kernel_rfl) (fun _ _ _ h => h) (Or.inl ⟨by rfl, ?hyh7⟩) hHeld ?_
        case hyh7 => ((intro wz hSw); (simp only [Holds_cons, Holds_nil, and_true] at hSw); (obtain ⟨_, _⟩ := hSw); go_simp; (try with_reducible rfl))
        (try simp only [List.getElem_toArray, List.getElem_cons_succ, List.getElem_cons_zero, Act.put, List.setIfInBounds_toArray, List.set_cons_zero, List.set_cons_succ])
        refine wpAnyH_ready (rs := [8]) (by kernel_rfl) (by simp) ?_
        refine AllReadyH.cons rfl (fun K hK => ?_) AllReadyH.nil
        go_simp
        refine hK.out _ _ (Holds.alloc hHeld _) (fun hHeldN => ?_)
        clear hK K hHeld
        have hHeld := hHeldN
        clear hHeldN
        (try simp only [List.getElem_toArray, List.getElem_cons_succ, List.getElem_cons_zero, Act.put, List.setIfInBounds_toArray, List.set_cons_zero, List.set_cons_succ])
        refine wpAnyH_ready (rs := [9]) (by kernel_rfl) (by simp) ?_
        refine AllReadyH.cons rfl (fun K hK => ?_) AllReadyH.nil
        have hpa : Ext w5 (w5.alloc (.cells #[.slice Ap (hxs a).length cp, .int .i64 n2] 52)) := (Ext.refl _).alloc _
        have HPW := Lib.hid (HP4.out.ext (hp5.trans hpa))
        have RW := Lib.hid (R5.ext hpa)
        refine stepPl (by rfl) _ _ (by rfl) (by rfl) (HPW.out) (by omega) (by rfl) (heap_alloc_new _ _) (by rfl) (RW.out) rfl (by show wr.heap.size ≤ w4.heap.size; omega) (by first | (simp; done) | (simp; omega) | omega) (by show w2.heap.size + 1 ≤ w4.heap.size; omega) (by show w4.heap.size ≤ _; omega) ?_
        intro A3 c3 w6 P3 hg3
        have HOW := HO4.out.ext (hp5.trans hpa)
        obtain ⟨v1, v2, v3⟩ := HOW.push P3 hg3
        have hKeep := HoldsG hHeld hg3 hBlw
        refine hK.out _ _ (hKeep) (fun hHeldN => ?_)
        clear hK K hHeld
        have hHeld := hHeldN
        clear hHeldN
        (try simp only [List.getElem_toArray, List.getElem_cons_succ, List.getElem_cons_zero, Act.put, List.setIfInBounds_toArray, List.set_cons_zero, List.set_cons_succ])
        refine wpAnyH_take (i := 10) (v := ?_) rfl (by kernel_rfl) (by kernel_rfl) (by kernel_rfl) (fun _ _ _ h => h) (Or.inl ⟨by rfl, ?hyh8⟩) hHeld ?_
        case hyh8 => ((intro wz hSw); (simp only [Holds_cons, Holds_nil, and_true] at hSw); (obtain ⟨_, _⟩ := hSw); go_simp; (try with_reducible rfl))
        (try simp only [List.getElem_toArray, List.getElem_cons_succ, List.getElem_cons_zero, Act.put, List.setIfInBounds_toArray, List.set_cons_zero, List.set_cons_succ])
        refine wpAnyH_done (by kernel_rfl) ?_ _
        refine LateQ.normal ?_
        refine wpAny_ready (rs := [11]) (by kernel_rfl) (by simp) ?_
        refine AllReady.cons rfl (fun K hK => ?_) AllReady.nil
        go_simp
        (try (refine hK _ _ ?_; clear hK K))
        (try simp only [List.getElem_toArray, List.getElem_cons_succ, List.getElem_cons_zero, Act.put, List.setIfInBounds_toArray, List.set_cons_zero, List.set_cons_succ])
        refine wpAny_done (by kernel_rfl) ?_ _
        obtain ⟨y1, _⟩ := Outs.next hx HO.out (hp4.trans (hp5.trans hpa)) hg3 (Nat.le_refl _) (.slice A3 (k + 1) c3)
        have hXX := Lib.hid y1
        have hVV := Lib.hid v3
        clear y1 v1 v2 v3 hg3 P3 HOW HPW RW R5 hHeld
        go_wp2
        go_roundw
        case rel => exact ⟨k + 1, _, ps ++ [(hxs a, n2)], A3, c3, by omega, by go_num, rfl, hXX.out, hVV.out, HW2.out⟩
        case measure => simp [intOf]; omega
    · obtain rfl : k = m := by omega
      have hbd : bdP ps := fun i hi => HW.out.bds i (by rw [← HW.out.len]; exact hi)
      have hPP := HO.out.P.parts (by omega) hbd
      have hOc0 := HO.out.c0
      have hOc1 := HO.out.c1
      have hOlt : w2.heap.size < wr.heap.size := HO.out.le
      have hkn : ¬ ((k + 1 : Nat) : Int) < ((k + 1 : Nat) : Int) := by omega
      obtain ⟨⟨x0, x1⟩, f0, f1⟩ := blk2R hRr
      cases rn
      · obtain ⟨rfl, rfl, rfl⟩ := HW.out.no rfl
        have HX := Lib.hid (fun u v : Value => ((hE2.trans hx).set (p := ⟨w.heap.size, 0, none⟩) (Nat.le_refl _) u).set (p := ⟨w.heap.size, 1, none⟩) (Nat.le_refl _) v)
        clear hPP hbd hOc0 hOc1 HO HW
        go_wp2
        exact bodyPost_ret (v := .tuple #[.agg #[.int .i64 0, .slice none 0 0], .bool false]) (by simp [results, Tryd.results11, go_sem, *]) rfl ⟨none, 0, rfl, PRow.nil _ _ _, HX.out _ _⟩
      · obtain ⟨hh, hww⟩ := HW.out.yes rfl
        rw [← hwn] at hww
        by_cases hv : vrt n1 ps
        · obtain ⟨g1, g2, g3⟩ := rdo_yes HSP.out hh (wrdsw_vrt hww hv) hv HR.out
          obtain rfl := g1.symm
          obtain rfl := g2.symm
          subst g3
          have hl3 : ps.length = k := HW.out.len
          have hPX := Lib.hid HO.out.P
          have HX0 := Lib.hid hx
          have HV := Lib.hid hv
          clear hh hww hbd HO HW hv
          go_wp2_with fail
          (with_reducible refine (l19Ok_is w2.heap.size A1 k c1 ps n1 _ hOc0 hOc1 hPP true ⟨fun _ => HV.out, fun _ => rfl⟩).mono ?_)
          rintro e w3 ⟨rfl, q3, rfl⟩
          have HF : Hid (∀ u v : Value, PRow (((wr.drewN q3).setCell ⟨w.heap.size, 0, none⟩ u).setCell ⟨w.heap.size, 1, none⟩ v) w.heap.size (((wr.drewN q3).setCell ⟨w.heap.size, 0, none⟩ u).setCell ⟨w.heap.size, 1, none⟩ v).heap.size A1 k c1 ps ∧ Ext w (((wr.drewN q3).setCell ⟨w.heap.size, 0, none⟩ u).setCell ⟨w.heap.size, 1, none⟩ v)) := fun u v => by
            have hws : w.heap.size < w2.heap.size + 1 := by have := hp2.size; omega
            refine ⟨?_, (((hE2.trans HX0.out).drewN q3).set (p := ⟨w.heap.size, 0, none⟩) (Nat.le_refl _) u).set (p := ⟨w.heap.size, 1, none⟩) (Nat.le_refl _) v⟩
            have h7 := (((hPX.out.ext ((Ext.refl _).drewN q3)).far (p := ⟨w.heap.size, 0, none⟩) (.inl hws) u).far (p := ⟨w.heap.size, 1, none⟩) (.inl hws) v)
            exact h7.wide (by omega) (by simp [World.setCell, World.drewN])
          have HL3 := Lib.hid hl3
          clear hPP hl3
          go_wp2
          refine bodyPost_ret (v := .tuple #[.agg #[.int .i64 n1, .slice A1 k c1], .bool true]) (by simp [results, Tryd.results11, go_sem, *]) rfl ⟨A1, c1, by rw [HL3.out], ?_, (HF.out _ _).2⟩
          rw [HL3.out]
          exact (HF.out _ _).1
        · obtain ⟨rfl, rfl, rfl⟩ := rdo_badw HSP.out hh hww hv HR.out
          have HV := Lib.hid hv
          have HX0 := Lib.hid hx
          clear hh hww hbd HO HW hv
          go_wp2_with fail
          (with_reducible refine (l19Ok_is w2.heap.size A1 k c1 ps n1 _ hOc0 hOc1 hPP false ⟨(fun e => by cases e), fun e => absurd e HV.out⟩).mono ?_)
          rintro e w3 ⟨rfl, q3, rfl⟩
          have HX := Lib.hid (fun u v : Value => (((hE2.trans HX0.out).drewN q3).set (p := ⟨w.heap.size, 0, none⟩) (Nat.le_refl _) u).set (p := ⟨w.heap.size, 1, none⟩) (Nat.le_refl _) v)
          clear hPP
          go_wp2
          exact bodyPost_ret (v := .tuple #[.agg #[.int .i64 0, .slice none 0 0], .bool false]) (by simp [results, Tryd.results11, go_sem, *]) rfl ⟨none, 0, rfl, PRow.nil _ _ _, HX.out _ _⟩
end Go.Proofs.YtinkaglngblddaaDoor
