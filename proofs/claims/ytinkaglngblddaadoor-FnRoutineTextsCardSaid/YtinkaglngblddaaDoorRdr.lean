/- Routines out of texts: contracts of ReadRoutine, the program's and the reference's. Under the library's table of powers. -/
import Derived.Test.YtinkaglngblddaaDoorRdp
import Derived.Test.YtinkaglngblddaaDoorRtm4
import Derived.Test.YtinkaglngblddaaDoorLate
import Derived.Deep.CutRange
namespace Go.Proofs.YtinkaglngblddaaDoor
set_option linter.unusedVariables false
set_option linter.unusedSimpArgs false
open Go.ChangeShapes Go.WideShapes Go.ChangeAt Go.RowKit Go.Joins Go.Deep

theorem blkE {w w' : World} {b : Nat} {o : Obj} (hb : w.heap[b]? = some o) (k : Ext w w') : w'.heap[b]? = some o :=
  (Below.block k b (Array.getElem?_eq_some_iff.1 hb).1).trans hb
theorem blk2R {w : World} {b : Nat} {x y : Value} {t : TypeId} (h : w.heap[b]? = some (.cells #[x, y] t)) : (w.cell? ⟨b, 0, none⟩ = some x ∧ w.cell? ⟨b, 1, none⟩ = some y) ∧ (w.frozen? ⟨b, 0, none⟩ = false ∧ w.frozen? ⟨b, 1, none⟩ = false) :=
  ⟨⟨(cell_of_block h 0).trans rfl, (cell_of_block h 1).trans rfl⟩, unfrozen_of_block h 0, unfrozen_of_block h 1⟩
/-- 'append(parts, part)' in a plain region. -/
theorem appPt {W : World} {ops : Array Oper} {rest : List Oper} {o : Oper} {a : Act} {Q : Exit → Act → World → Prop} (hgd : o.guard = none) (s x : Operand)
    (ho : o.op = .call { callee := .builtin .append, args := #[s, x], argTypes := #[27, 27] }) {lo hi : Nat} {A : Option Addr} {n c : Nat} {ps : List (List Int × Int)} (hs : a.eval s = .slice A n c) (hown : PRow W lo hi A n c ps) (hn : n ≤ 4000000)
    {b : Nat} (hx : a.eval x = .slice (some ⟨b, 0, none⟩) 1 1) {ar : Array Value} {t' : TypeId} {fr : Nat × Nat} (hB : W.heap[b]? = some (.cells ar t' fr)) {lo2 hi2 : Nat} {B : Option Addr} {m d : Nat} {xs : List Int} {t : Int} (hc : ar.toList = [.slice B m d, .int .i64 t]) (R : Row W lo2 hi2 2 1 B m d xs) (hm : xs.length = m)
    (h1 : hi ≤ lo2) (h2 : hi2 ≤ W.heap.size) (h0 : lo ≤ lo2) (h3 : lo2 ≤ hi2)
    (h : ∀ A' c' w', PRow w' lo w'.heap.size A' (n + 1) c' (ps ++ [(xs, t)]) → W.grownBy w' (A.map (·.block)) → wpList Tryd.prog ops Q rest (a.put o.dst (.slice A' (n + 1) c')) w') :
    wpList Tryd.prog ops Q (o :: rest) a W := by
  obtain ⟨i, z, hi', hz0, hz1, hz2, hz3⟩ := elPart
  obtain ⟨H, hF⟩ := hown.rows
  obtain ⟨cs, hr, hcc⟩ := hF.row
  refine wpList_append_own_at W hgd s x 27 ho lo 52 i z 2 32 Tryd.underlying27 hi' hz0 hz1 hz2 hz3 (by omega) (.slice A n c) n _ hs hr.own ⟨b, 0, none⟩ 1 1 [.slice B m d, .int .i64 t] hx rfl (newsG hB hc) (by intro u hu; simp at hu; rcases hu with rfl | rfl <;> rfl) (by unfold maxLen; omega) (by omega) (by omega) ?_
  intro v' w' k2 k3 _ k5
  obtain ⟨A', c', rfl⟩ : ∃ A' c', v' = .slice A' (n + 1) c' := by
    rcases ownsRow_forms k2 with ⟨rfl, e0⟩ | ⟨g, cap, rfl⟩
    · omega
    · exact ⟨_, _, rfl⟩
  have k3' : W.grownBy w' (A.map (·.block)) := by cases A <;> exact k3
  refine h _ _ _ (PRow.push hown.len hr hcc hF (by omega) R hm h1 h2 h0 k2 k3' ?_) k3'
  cases A <;> cases A' <;> exact k5
/-- What ReadRoutine hands back. -/
def RetRd (w : World) (h : Int) (ps : List (List Int × Int)) (r : Bool) (e : Ending) (w' : World) : Prop :=
  ∃ A c, e = .returned (.tuple #[.agg #[.int .i64 h, .slice A ps.length c], .bool r]) ∧ PRow w' w.heap.size w'.heap.size A ps.length c ps ∧ Ext w w'
/-- Why a text is none of a routine: the head. -/
theorem rdo_head {s w0 : ByteArray} {ws : List ByteArray} (hs : splB 32 s = w0 :: ws) {h0 : Int} {q0 : List (List Int × Int)} {r0 : Bool} (hR : Rdo s h0 q0 r0) (hn : ∀ h, ¬ hed w0 h) : h0 = 0 ∧ q0 = [] ∧ r0 = false := by
  rcases hR with ⟨_, u0, us, h1, h2, _⟩ | ⟨h1, h2, h3, _⟩
  · rw [hs] at h1
    cases h1
    exact absurd h2 (hn _)
  · exact ⟨h2, h3, h1⟩
theorem rdo_word {s w0 : ByteArray} {ws : List ByteArray} (hs : splB 32 s = w0 :: ws) {h0 : Int} {q0 : List (List Int × Int)} {r0 : Bool} (hR : Rdo s h0 q0 r0) {k : Nat} (hk : k < ws.length) (hn : ∀ xs n, ¬ wrd (gs ws k) xs n) : h0 = 0 ∧ q0 = [] ∧ r0 = false := by
  rcases hR with ⟨_, u0, us, h1, _, h2, _⟩ | ⟨h1, h2, h3, _⟩
  · rw [hs] at h1
    cases h1
    exact absurd (h2.2.2 k hk) (hn _ _)
  · exact ⟨h2, h3, h1⟩
theorem rdo_yes {s w0 : ByteArray} {ws : List ByteArray} (hs : splB 32 s = w0 :: ws) {h : Int} {ps : List (List Int × Int)} (h1 : hed w0 h) (h2 : wrds ws ps ws.length) (h3 : vrt h ps) {h0 : Int} {q0 : List (List Int × Int)} {r0 : Bool} (hR : Rdo s h0 q0 r0) : h0 = h ∧ q0 = ps ∧ r0 = true := by
  rcases hR with ⟨e, u0, us, k1, ⟨a, k2, k3, k4⟩, k5, _⟩ | ⟨_, _, _, hn⟩
  · rw [hs] at k1
    cases k1
    obtain ⟨a', g2, g3, g4⟩ := h1
    obtain ⟨rfl, _⟩ := cut_unique k2 g2
    refine ⟨by rw [k4, g4], ?_, e⟩
    apply List.ext_getElem (by rw [k5.1, h2.1])
    intro i i1 i2
    have hi : i < ws.length := by rw [k5.1] at i1; exact i1
    obtain ⟨e1, e2⟩ := wrd_unique (k5.2.2 i hi) (h2.2.2 i hi)
    have p1 : pt q0 i = q0[i].1 := by unfold pt; rw [List.getElem?_eq_getElem i1]; rfl
    have p2 : pt ps i = ps[i].1 := by unfold pt; rw [List.getElem?_eq_getElem i2]; rfl
    have p3 : tm q0 i = q0[i].2 := by unfold tm; rw [List.getElem?_eq_getElem i1]; rfl
    have p4 : tm ps i = ps[i].2 := by unfold tm; rw [List.getElem?_eq_getElem i2]; rfl
    rw [p1, p2] at e1
    rw [p3, p4] at e2
    exact Prod.ext e1 e2
  · exact absurd ⟨w0, ws, hs, h1, h2, h3⟩ (hn _ _)
theorem rdo_bad {s w0 : ByteArray} {ws : List ByteArray} (hs : splB 32 s = w0 :: ws) {h : Int} {ps : List (List Int × Int)} (h1 : hed w0 h) (h2 : wrds ws ps ws.length) (h3 : ¬ vrt h ps) {h0 : Int} {q0 : List (List Int × Int)} {r0 : Bool} (hR : Rdo s h0 q0 r0) : h0 = 0 ∧ q0 = [] ∧ r0 = false := by
  rcases hR with ⟨e, hr⟩ | ⟨h1, h2, h3, _⟩
  · exfalso
    obtain ⟨u0, us, k1, ⟨a, k2, k3, k4⟩, k5, k6⟩ := hr
    rw [hs] at k1
    cases k1
    obtain ⟨a', g2, g3, g4⟩ := h1
    obtain ⟨rfl, _⟩ := cut_unique k2 g2
    apply h3
    rw [g4, ← k4]
    have : ps = q0 := by
      apply List.ext_getElem (by rw [k5.1, h2.1])
      intro i i2 i1
      have hi : i < ws.length := by rw [k5.1] at i1; exact i1
      obtain ⟨e1, e2⟩ := wrd_unique (k5.2.2 i hi) (h2.2.2 i hi)
      have p1 : pt q0 i = q0[i].1 := by unfold pt; rw [List.getElem?_eq_getElem i1]; rfl
      have p2 : pt ps i = ps[i].1 := by unfold pt; rw [List.getElem?_eq_getElem i2]; rfl
      have p3 : tm q0 i = q0[i].2 := by unfold tm; rw [List.getElem?_eq_getElem i1]; rfl
      have p4 : tm ps i = ps[i].2 := by unfold tm; rw [List.getElem?_eq_getElem i2]; rfl
      rw [p1, p2] at e1
      rw [p3, p4] at e2
      exact Prod.ext e1.symm e2.symm
    rw [this]
    exact k6
  · exact ⟨h2, h3, h1⟩
set_option maxHeartbeats 8000000 in
set_option maxRecDepth 100000 in
theorem implReadRoutine_any (s : ByteArray) (w : World) (hs : s.size ≤ 1048576) (hT : Tab w) (h0 : Int) (q0 : List (List Int × Int)) (r0 : Bool) (hR : Rdo s h0 q0 r0) :
    Calls Tryd.prog 12 #[.string s] w (RetRd w h0 q0 r0) := by
  have hRB := heap_alloc_new w (.cells #[.int .i64 0, .slice none 0 0] 29)
  obtain ⟨w0, ws, hsp⟩ : ∃ w0 ws, splB 32 s = w0 :: ws := by
    have := (splB_len 32 s).1
    cases hq : splB 32 s with
    | nil => rw [hq] at this; simp at this
    | cons a b => exact ⟨a, b, rfl⟩
  have hszs := splB_szs (c := 32) (s := s) (N := 2000000) (by omega)
  have hlen := splB_len 32 s
  rw [hsp] at hszs hlen
  have HSP := Lib.hid hsp
  have HR := Lib.hid hR
  clear hsp hR
  have hw0 := hszs w0 (by simp)
  go_enter Tryd.func12, Tryd.ntmps12
  go_wp2_with fail
  (with_reducible refine (parts_any s _ (by omega)).mono ?_)
  rintro e w1 ⟨A, c, rfl, hrow, hx1⟩
  rw [HSP.out] at hrow ⊢
  have hcap : ws.length + 1 ≤ c := hrow.cap
  have hS := hrow.strs (by omega) (fun t ht => by have := hszs t ht; omega)
  have hR1 := blkE hRB hx1
  have hE1 : Ext w w1 := Ext.trans (by with_reducible (repeat (first | exact Ext.refl _ | apply Ext.drewN | apply Ext.drew | apply Ext.alloc | (refine Ext.set ?_ (by first | (simp; done) | (simp; omega) | omega) _) | (refine Ext.trans ?_ (by assumption))))) hx1
  have hz1 : w.heap.size < w1.heap.size := by have := hx1.size; simp at this; omega
  clear hRB hx1 hrow
  obtain ⟨b, off, rfl, hb, hcell⟩ := hS.at_ (by simp)
  have c0 := hcell 0 (by simp)
  have hCELL := Lib.hid hcell
  clear hcell hS
  have c0' : w1.cell? ⟨b, off, none⟩ = some (.string w0) := c0
  have c0 : w1.cell? ⟨b, off + 0, none⟩ = some (.string w0) := c0
  have hln : (w0 :: ws).length = ws.length + 1 := rfl
  have hlenm : ws.length + 1 ≤ s.size + 1 := hlen.2
  rw [hln] at *
  have hl0 : (0 : Int) < ((ws.length + 1 : Nat) : Int) := by omega
  generalize hwn : ws.length = m at *
  go_wp2_with fail
  (with_reducible refine (cut_any 58 w0 _ hw0).mono ?_)
  rintro e w' ⟨hd, rest, r1, rfl, hcut, q1, rfl⟩
  have hcz := cutd_size hcut
  have HCUT := Lib.hid hcut
  clear hcut
  obtain ⟨n1, rn1, hnm⟩ := nmb_ex hd
  have HNM := Lib.hid hnm
  have hnb := nmb_bd hnm
  clear hnm
  go_wp2_with fail
  (with_reducible refine (implNumber_is hd _ (by omega) (hT.ext (hE1.trans (by with_reducible (repeat (first | exact Ext.refl _ | apply Ext.drewN | apply Ext.drew | apply Ext.alloc | (refine Ext.set ?_ (by first | (simp; done) | (simp; omega) | omega) _) | (refine Ext.trans ?_ (by assumption))))))) n1 rn1 HNM.out).mono ?_)
  rintro e w2 ⟨rfl, hx2⟩
  have hp2 : Ext w1 w2 := Ext.trans (by with_reducible (repeat (first | exact Ext.refl _ | apply Ext.drewN | apply Ext.drew | apply Ext.alloc | (refine Ext.set ?_ (by first | (simp; done) | (simp; omega) | omega) _) | (refine Ext.trans ?_ (by assumption))))) hx2
  have hE2 := hE1.trans hp2
  have hR2 := blkE hR1 hp2
  have hb2 : b < w2.heap.size := Nat.lt_of_lt_of_le hb hp2.size
  clear hx2 c0 c0'
  -- a wrong head
  by_cases hbad : r1 = false ∨ rn1 = false ∨ 0 < rest.size
  · have hno := rdo_head HSP.out HR.out (fun h hh => by
      obtain ⟨a, k1, k2, k3⟩ := hh
      rcases hbad with rfl | rfl | hq
      · rcases HCUT.out with ⟨e, _⟩ | ⟨_, hn, _, _⟩
        · cases e
        · obtain ⟨k, hk, _⟩ := cut_true k1
          exact hn k (Nat.zero_le _) ((Array.getElem?_eq_some_iff.1 hk).1) hk
      · cases r1
        · rcases HCUT.out with ⟨e, _⟩ | ⟨_, hn, _, _⟩
          · cases e
          · obtain ⟨k, hk, _⟩ := cut_true k1
            exact hn k (Nat.zero_le _) ((Array.getElem?_eq_some_iff.1 hk).1) hk
        · obtain ⟨rfl, _⟩ := cut_unique HCUT.out k1
          rcases HNM.out with ⟨e, _⟩ | ⟨_, e, _⟩
          · cases e
          · exact e k2
      · cases r1
        · rcases HCUT.out with ⟨e, _⟩ | ⟨_, hn, _, _⟩
          · cases e
          · obtain ⟨k, hk, _⟩ := cut_true k1
            exact hn k (Nat.zero_le _) ((Array.getElem?_eq_some_iff.1 hk).1) hk
        · obtain ⟨_, e⟩ := cut_unique HCUT.out k1
          rw [e] at hq
          exact absurd hq (by decide))
    obtain ⟨rfl, rfl, rfl⟩ := hno
    obtain ⟨⟨x0, x1⟩, f0, f1⟩ := blk2R hR2
    have HX := Lib.hid (fun u v : Value => (hE2.set (p := ⟨w.heap.size, 0, none⟩) (Nat.le_refl _) u).set (p := ⟨w.heap.size, 1, none⟩) (Nat.le_refl _) v)
    have hcase : r1 = false ∨ (r1 = true ∧ rn1 = false) ∨ (r1 = true ∧ rn1 = true ∧ rest.toList.isEmpty = false) := by
      rcases hbad with h | h | h
      · exact .inl h
      · cases r1
        · exact .inl rfl
        · exact .inr (.inl ⟨rfl, h⟩)
      · cases r1
        · exact .inl rfl
        · cases rn1
          · exact .inr (.inl ⟨rfl, rfl⟩)
          · exact .inr (.inr ⟨rfl, rfl, emptyN _ h⟩)
    clear hbad HNM HCUT HSP HR hCELL hR1 hR2
    rcases hcase with rfl | ⟨rfl, rfl⟩ | ⟨rfl, rfl, he⟩
    all_goals
      go_wp2
      exact bodyPost_ret (v := .tuple #[.agg #[.int .i64 0, .slice none 0 0], .bool false]) (by simp [results, Tryd.results12, go_sem, *]) rfl ⟨none, 0, rfl, PRow.nil _ _ _, HX.out _ _⟩
  obtain ⟨rfl, rfl, hre⟩ : r1 = true ∧ rn1 = true ∧ rest.size = 0 := by
    cases r1 <;> cases rn1 <;> simp_all
  have hre' : rest = ⟨#[]⟩ := ByteArray.ext (Array.eq_empty_of_size_eq_zero hre)
  subst hre'
  have HED : Hid (hed w0 n1) := by
    rcases HNM.out with ⟨_, k1, k2⟩ | ⟨e, _⟩
    · exact ⟨hd, HCUT.out, k1, k2⟩
    · cases e
  clear hbad hre hcz HNM HCUT
  have hO2 := heap_alloc_new w2 (.cells #[.int .i64 n1, .slice none 0 0] 29)
  by_cases hc1 : c = 1
  · subst hc1
    have hm0 : m = 0 := by omega
    have HM0 := Lib.hid hm0
    clear hm0
    go_wp2
    go_loopw [51] (fun i wr => ∃ (k : Nat) (ps : List (List Int × Int)) (A1 : Option Addr) (c1 : Nat), k ≤ m ∧ i = .int .i64 k ∧ Ext w2 wr ∧ Hid (Outs wr w2.heap.size (w2.heap.size + 1) n1 k ps A1 c1) ∧ Hid (wrds ws ps k)) (fun i _ => m - (intOf i).toNat)
    case atStart => exact ⟨0, [], none, 0, Nat.zero_le _, rfl, (Ext.refl _).alloc _, ⟨(blk2R hO2).1.1, (blk2R hO2).1.2, fun o => unfrozen_of_block hO2 o, Nat.lt_succ_self _, by simp, PRow.nil _ _ _⟩, ⟨rfl, Nat.zero_le _, fun i hi => absurd hi (Nat.not_lt_zero _)⟩⟩
    case round =>
      obtain ⟨k, ps, A1, c1, hk, rfl, hx, HO, HW⟩ := hrel
      by_cases hlt : k < m
      · exact absurd hlt (by have := HM0.out; omega)
      · obtain rfl : k = m := by omega
        have hWm : wrds ws ps ws.length := by have := HW.out; rwa [← hwn] at this
        have hbd : bdP ps := fun i hi => by
          rw [hWm.1] at hi
          obtain ⟨a, t, j1, j2, j3, j4, j5⟩ := hWm.2.2 i hi
          have h12 := (thr_iff.1 (vpat_thr j3)).2
          have := numOk_bd j4
          rw [j5]
          refine ⟨by omega, ?_, by omega⟩
          rw [j2]
          exact hxs_bd a
        have hPP := HO.out.P.parts (by omega) hbd
        have hOc0 := HO.out.c0
        have hOc1 := HO.out.c1
        have hOlt : w2.heap.size < wr.heap.size := HO.out.le
        have hback : rtx n1 ps ws.length = s := by rw [rtx_back HED.out hWm _ (Nat.le_refl _)]; exact splB_join HSP.out
        rw [hwn] at hback
        have hsne : 0 < s.size := by
          obtain ⟨a, j1, j2, _⟩ := HED.out
          obtain ⟨j, hj, _⟩ := cut_true j1
          have h3 : 0 < w0.size := by have h4 := (Array.getElem?_eq_some_iff.1 hj).1; exact Nat.lt_of_le_of_lt (Nat.zero_le _) h4
          refine Nat.pos_of_ne_zero fun e => ?_
          have h5 := splB_szs (c := 32) (s := s) (N := 0) (by omega) w0 (by rw [HSP.out]; simp)
          omega
        have hem := emptyN s hsne
        have hRr := blkE hR2 hx
        by_cases hv : vrt n1 ps
        · obtain ⟨g1, g2, g3⟩ := rdo_yes HSP.out HED.out hWm hv HR.out
          obtain rfl := g1.symm
          obtain rfl := g2.symm
          subst g3
          have hl3 : ps.length = k := by rw [hWm.1, hwn]
          have hPX := Lib.hid HO.out.P
          have HRT : Hid (Rtext n1 ps k s) := .inl ⟨hv, hback⟩
          have HX0 := Lib.hid hx
          clear hv hback hWm hbd HW HO HED
          go_wp2_with fail
          (with_reducible refine (implRoutineText_is A1 k c1 ps n1 _ (hPP.ext (by with_reducible (repeat (first | exact Ext.refl _ | apply Ext.drewN | apply Ext.drew | apply Ext.alloc | (refine Ext.set ?_ (by first | (simp; done) | (simp; omega) | omega) _) | (refine Ext.trans ?_ (by assumption)))))) (hT.ext (hE2.trans (hx.trans (by with_reducible (repeat (first | exact Ext.refl _ | apply Ext.drewN | apply Ext.drew | apply Ext.alloc | (refine Ext.set ?_ (by first | (simp; done) | (simp; omega) | omega) _) | (refine Ext.trans ?_ (by assumption)))))))) s HRT.out).mono ?_)
          rintro e w3 ⟨rfl, hx3⟩
          have hp3 : Ext wr w3 := Ext.trans (by with_reducible (repeat (first | exact Ext.refl _ | apply Ext.drewN | apply Ext.drew | apply Ext.alloc | (refine Ext.set ?_ (by first | (simp; done) | (simp; omega) | omega) _) | (refine Ext.trans ?_ (by assumption))))) hx3
          have hR3 := blkE hRr hp3
          have c30 := hp3.cell hOlt hOc0
          have c31 := hp3.cell hOlt hOc1
          obtain ⟨⟨x0, x1⟩, f0, f1⟩ := blk2R hR3
          have HF : Hid (∀ u v : Value, PRow ((w3.setCell ⟨w.heap.size, 0, none⟩ u).setCell ⟨w.heap.size, 1, none⟩ v) w.heap.size ((w3.setCell ⟨w.heap.size, 0, none⟩ u).setCell ⟨w.heap.size, 1, none⟩ v).heap.size A1 k c1 ps ∧ Ext w ((w3.setCell ⟨w.heap.size, 0, none⟩ u).setCell ⟨w.heap.size, 1, none⟩ v)) := fun u v => by
            have hws : w.heap.size < w2.heap.size + 1 := by have := hp2.size; omega
            refine ⟨?_, (((hE2.trans HX0.out).trans hp3).set (p := ⟨w.heap.size, 0, none⟩) (Nat.le_refl _) u).set (p := ⟨w.heap.size, 1, none⟩) (Nat.le_refl _) v⟩
            have h7 := (((hPX.out.ext hp3).far (p := ⟨w.heap.size, 0, none⟩) (.inl hws) u).far (p := ⟨w.heap.size, 1, none⟩) (.inl hws) v)
            exact h7.wide (by omega) (by simp [World.setCell]; exact hp3.size)
          have HL3 := Lib.hid hl3
          clear hPP hx3 hR3 hRr hl3 hOc0 hOc1 hx
          go_wp2
          refine bodyPost_ret (v := .tuple #[.agg #[.int .i64 n1, .slice A1 k c1], .bool true]) (by simp [results, Tryd.results12, go_sem, *]) rfl ⟨A1, c1, by rw [HL3.out], ?_, (HF.out _ _).2⟩
          rw [HL3.out]
          exact (HF.out _ _).1
        · obtain ⟨rfl, rfl, rfl⟩ := rdo_bad HSP.out HED.out hWm hv HR.out
          have HRT : Hid (Rtext n1 ps k ⟨#[]⟩) := .inr ⟨hv, rfl⟩
          have HX0 := Lib.hid hx
          have hnq : ((⟨#[]⟩ : ByteArray).toList == s.toList) = false := neqB (fun e => by rw [← e] at hsne; exact absurd hsne (by decide))
          clear hv hback hWm hbd HW HO HED
          go_wp2_with fail
          (with_reducible refine (implRoutineText_is A1 k c1 ps n1 _ (hPP.ext (by with_reducible (repeat (first | exact Ext.refl _ | apply Ext.drewN | apply Ext.drew | apply Ext.alloc | (refine Ext.set ?_ (by first | (simp; done) | (simp; omega) | omega) _) | (refine Ext.trans ?_ (by assumption)))))) (hT.ext (hE2.trans (hx.trans (by with_reducible (repeat (first | exact Ext.refl _ | apply Ext.drewN | apply Ext.drew | apply Ext.alloc | (refine Ext.set ?_ (by first | (simp; done) | (simp; omega) | omega) _) | (refine Ext.trans ?_ (by assumption)))))))) ⟨#[]⟩ HRT.out).mono ?_)
          rintro e w3 ⟨rfl, hx3⟩
          have hp3 : Ext wr w3 := Ext.trans (by with_reducible (repeat (first | exact Ext.refl _ | apply Ext.drewN | apply Ext.drew | apply Ext.alloc | (refine Ext.set ?_ (by first | (simp; done) | (simp; omega) | omega) _) | (refine Ext.trans ?_ (by assumption))))) hx3
          have hR3 := blkE hRr hp3
          obtain ⟨⟨x0, x1⟩, f0, f1⟩ := blk2R hR3
          have HX := Lib.hid (fun u v : Value => (((hE2.trans HX0.out).trans hp3).set (p := ⟨w.heap.size, 0, none⟩) (Nat.le_refl _) u).set (p := ⟨w.heap.size, 1, none⟩) (Nat.le_refl _) v)
          clear hPP hx3 hR3 hRr hOc0 hOc1 hx hp3
          go_wp2
          exact bodyPost_ret (v := .tuple #[.agg #[.int .i64 0, .slice none 0 0], .bool false]) (by simp [results, Tryd.results12, go_sem, *]) rfl ⟨none, 0, rfl, PRow.nil _ _ _, HX.out _ _⟩
  · have hc2 : ¬ c = 1 := hc1
    go_wp2
    go_loopw [51] (fun i wr => ∃ (k : Nat) (ps : List (List Int × Int)) (A1 : Option Addr) (c1 : Nat), k ≤ m ∧ i = .int .i64 k ∧ Ext w2 wr ∧ Hid (Outs wr w2.heap.size (w2.heap.size + 1) n1 k ps A1 c1) ∧ Hid (wrds ws ps k)) (fun i _ => m - (intOf i).toNat)
    case atStart => exact ⟨0, [], none, 0, Nat.zero_le _, rfl, (Ext.refl _).alloc _, ⟨(blk2R hO2).1.1, (blk2R hO2).1.2, fun o => unfrozen_of_block hO2 o, Nat.lt_succ_self _, by simp, PRow.nil _ _ _⟩, ⟨rfl, Nat.zero_le _, fun i hi => absurd hi (Nat.not_lt_zero _)⟩⟩
    case round =>
      obtain ⟨k, ps, A1, c1, hk, rfl, hx, HO, HW⟩ := hrel
      by_cases hlt : k < m
      · have hki : (k : Int) < m := by omega
        have hx1r : Ext w1 wr := hp2.trans hx
        have hb3 : b < wr.heap.size := Nat.lt_of_lt_of_le hb2 hx.size
        have cu : wr.cell? ⟨b, off + 1 + k, none⟩ = some (.string (gs ws k)) := by
          have := hx1r.cell hb (hCELL.out (k + 1) (by show k + 1 < ws.length + 1; omega))
          rw [show off + (k + 1) = off + 1 + k by omega] at this
          exact this
        have hus : (gs ws k).size ≤ 2000000 := hszs _ (List.mem_cons_of_mem _ (gs_mem (by omega)))
        have HWRD : Hid (∀ u, gs ws k = u → (∀ xs n, ¬ wrd u xs n) → h0 = 0 ∧ q0 = [] ∧ r0 = false) := fun u hu hn => rdo_word HSP.out HR.out (k := k) (by omega) (by rw [hu]; exact hn)
        obtain ⟨u, hu⟩ : ∃ u, gs ws k = u := ⟨_, rfl⟩
        rw [hu] at cu hus
        have HU := Lib.hid hu
        clear hu
        have hOc1 := HO.out.c1
        have hOf := HO.out.fz
        have hOle := HO.out.le
        have hRr := blkE hR2 hx
        go_wp2_with fail
        (with_reducible refine (cut_any 42 u _ hus).mono ?_)
        rintro e w' ⟨a, t, r, rfl, hcut, q2, rfl⟩
        have hcz := cutd_size hcut
        have HCUT := Lib.hid hcut
        clear hcut
        obtain ⟨n2, rn2, hnm⟩ := nmb_ex t
        have HNM := Lib.hid hnm
        have hnb2 := nmb_bd hnm
        clear hnm
        have hW1 : Ext wr (wr.drewN q2) := (Ext.refl _).drewN _
        cases hv : vpat (hxs a)
        · have hno := HWRD.out u HU.out (fun xs n hh => by
            obtain ⟨a', t', k1, rfl, k2, _⟩ := hh
            cases r
            · rcases HCUT.out with ⟨e, _⟩ | ⟨_, hn, _, _⟩
              · cases e
              · obtain ⟨j, hj, _⟩ := cut_true k1
                exact hn j (Nat.zero_le _) ((Array.getElem?_eq_some_iff.1 hj).1) hj
            · obtain ⟨rfl, _⟩ := cut_unique HCUT.out k1
              rw [hv] at k2
              cases k2)
          obtain ⟨rfl, rfl, rfl⟩ := hno
          have HV := Lib.hid hv
          clear hv cu
          go_wp2_with fail
          (with_reducible refine (ReadPattern_no a _ (by omega) HV.out).mono ?_)
          rintro e w3 ⟨rfl, hx3⟩
          have hp3 : Ext wr w3 := Ext.trans (by with_reducible (repeat (first | exact Ext.refl _ | apply Ext.drewN | apply Ext.drew | apply Ext.alloc | (refine Ext.set ?_ (by first | (simp; done) | (simp; omega) | omega) _) | (refine Ext.trans ?_ (by assumption))))) hx3
          go_wp2_with fail
          (with_reducible refine (implNumber_is t _ (by omega) (hT.ext (hE2.trans (hx.trans hp3))) n2 rn2 HNM.out).mono ?_)
          rintro e w4 ⟨rfl, hx4⟩
          have hp4 : Ext wr w4 := hp3.trans (Ext.trans (by with_reducible (repeat (first | exact Ext.refl _ | apply Ext.drewN | apply Ext.drew | apply Ext.alloc | (refine Ext.set ?_ (by first | (simp; done) | (simp; omega) | omega) _) | (refine Ext.trans ?_ (by assumption))))) hx4)
          have hR4 := blkE hRr hp4
          obtain ⟨⟨x0, x1⟩, f0, f1⟩ := blk2R hR4
          have HX := Lib.hid (fun u v : Value => (((hE2.trans hx).trans hp4).set (p := ⟨w.heap.size, 0, none⟩) (Nat.le_refl _) u).set (p := ⟨w.heap.size, 1, none⟩) (Nat.le_refl _) v)
          clear hR4 hRr hx3 hx4 hp3 hp4 HNM HCUT HWRD
          cases r
          all_goals
            go_wp2
            exact bodyPost_ret (v := .tuple #[.agg #[.int .i64 0, .slice none 0 0], .bool false]) (by simp [results, Tryd.results12, go_sem, *]) rfl ⟨none, 0, rfl, PRow.nil _ _ _, HX.out _ _⟩
        · have HV := Lib.hid hv
          clear hv
          go_wp2_with fail
          (with_reducible refine (ReadPattern_yes a _ (by omega) HV.out).mono ?_)
          rintro e w3 ⟨Ap, cp, rfl, hown⟩
          have hp3 : Ext wr w3 := hW1.trans hown.ext
          have R3 := Row.of_own hown rfl
          clear hown
          go_wp2_with fail
          (with_reducible refine (implNumber_is t _ (by omega) (hT.ext (hE2.trans (hx.trans hp3))) n2 rn2 HNM.out).mono ?_)
          rintro e w4 ⟨rfl, hx4⟩
          have hp34 : Ext w3 w4 := Ext.trans (by with_reducible (repeat (first | exact Ext.refl _ | apply Ext.drewN | apply Ext.drew | apply Ext.alloc | (refine Ext.set ?_ (by first | (simp; done) | (simp; omega) | omega) _) | (refine Ext.trans ?_ (by assumption))))) hx4
          have hp4 : Ext wr w4 := hp3.trans hp34
          have hR4 := blkE hRr hp4
          by_cases hbad : r = false ∨ rn2 = false
          · have hno := HWRD.out u HU.out (fun xs n hh => by
              obtain ⟨a', t', k1, rfl, _, k2, _⟩ := hh
              cases r
              · rcases HCUT.out with ⟨e, _⟩ | ⟨_, hn, _, _⟩
                · cases e
                · obtain ⟨j, hj, _⟩ := cut_true k1
                  exact hn j (Nat.zero_le _) ((Array.getElem?_eq_some_iff.1 hj).1) hj
              · obtain ⟨_, rfl⟩ := cut_unique HCUT.out k1
                rcases HNM.out with ⟨e, _⟩ | ⟨_, e, _⟩
                · subst e; simp at hbad
                · exact e k2)
            obtain ⟨rfl, rfl, rfl⟩ := hno
            obtain ⟨⟨x0, x1⟩, f0, f1⟩ := blk2R hR4
            have HX := Lib.hid (fun u v : Value => (((hE2.trans hx).trans hp4).set (p := ⟨w.heap.size, 0, none⟩) (Nat.le_refl _) u).set (p := ⟨w.heap.size, 1, none⟩) (Nat.le_refl _) v)
            have hcase : r = false ∨ (r = true ∧ rn2 = false) := by cases r <;> simp_all
            clear hR4 hRr hx4 hp3 hp34 hp4 HNM HCUT HWRD hbad R3 cu
            rcases hcase with rfl | ⟨rfl, rfl⟩
            all_goals
              go_wp2
              exact bodyPost_ret (v := .tuple #[.agg #[.int .i64 0, .slice none 0 0], .bool false]) (by simp [results, Tryd.results12, go_sem, *]) rfl ⟨none, 0, rfl, PRow.nil _ _ _, HX.out _ _⟩
          · obtain ⟨rfl, rfl⟩ : r = true ∧ rn2 = true := by cases r <;> cases rn2 <;> simp_all
            have HW2 : Hid (wrds ws (ps ++ [(hxs a, n2)]) (k + 1)) := by
              refine ⟨by simp [HW.out.1], by omega, fun i hi => ?_⟩
              by_cases e : i = k
              · subst e
                have e1 : pt (ps ++ [(hxs a, n2)]) i = hxs a := by unfold pt; simp [HW.out.1]
                have e2 : tm (ps ++ [(hxs a, n2)]) i = n2 := by unfold tm; simp [HW.out.1]
                rw [e1, e2, HU.out]
                rcases HNM.out with ⟨_, k1, k2⟩ | ⟨e, _⟩
                · exact ⟨a, t, HCUT.out, rfl, HV.out, k1, k2⟩
                · cases e
              · have hi' : i < ps.length := by rw [HW.out.1]; omega
                have e1 : pt (ps ++ [(hxs a, n2)]) i = pt ps i := by unfold pt; rw [List.getElem?_append_left hi']
                have e2 : tm (ps ++ [(hxs a, n2)]) i = tm ps i := by unfold tm; rw [List.getElem?_append_left hi']
                rw [e1, e2]
                exact HW.out.2.2 i (by omega)
            have hO4 := HO.out.ext hp4
            have oc1 := hO4.c1
            have of1 := hO4.fz
            have oz := hO4.le
            have hsz4 := hp4.size
            have hsz3 := hp3.size
            have hsz34 := hp34.size
            have HO4 := Lib.hid hO4
            have HP4 := Lib.hid (HO.out.P.ext hp4)
            have R4 := Lib.hid (R3.ext hp34)
            have HE4 := Lib.hid hp4
            clear hO4 R3 hp3 hp34 hp4 hR4 hRr hx4 hbad HNM HCUT HWRD cu hOc1 hOf
            go_wp2_with (first | (at_builtin; refine appPt rfl _ _ rfl rfl (HP4.out.ext ((Ext.refl _).alloc _)) (by omega) rfl (heap_alloc_new _ _) (by rfl) (R4.out.ext ((Ext.refl _).alloc _)) rfl (by show wr.heap.size ≤ wr.heap.size; omega) (by first | (simp; done) | (simp; omega) | omega) (by show w2.heap.size + 1 ≤ wr.heap.size; omega) (by show wr.heap.size ≤ _; omega) ?_; intro A3 c3 w5 P3 hg3; obtain ⟨v1, v2, v3⟩ := (HO4.out.ext ((Ext.refl _).alloc _)).push P3 hg3))
            obtain ⟨x1, _⟩ := Outs.next hx HO.out (HE4.out.alloc _) hg3 (Nat.le_refl _) (.slice A3 (k + 1) c3)
            have hXX := Lib.hid x1
            have hVV := Lib.hid v3
            clear x1 v1 v2 v3 hg3 P3
            go_roundw
            case rel => exact ⟨k + 1, ps ++ [(hxs a, n2)], A3, c3, by omega, by go_num, hXX.out, hVV.out, HW2.out⟩
            case measure => simp [intOf]; omega
      · obtain rfl : k = m := by omega
        have hWm : wrds ws ps ws.length := by have := HW.out; rwa [← hwn] at this
        have hbd : bdP ps := fun i hi => by
          rw [hWm.1] at hi
          obtain ⟨a, t, j1, j2, j3, j4, j5⟩ := hWm.2.2 i hi
          have h12 := (thr_iff.1 (vpat_thr j3)).2
          have := numOk_bd j4
          rw [j5]
          refine ⟨by omega, ?_, by omega⟩
          rw [j2]
          exact hxs_bd a
        have hPP := HO.out.P.parts (by omega) hbd
        have hOc0 := HO.out.c0
        have hOc1 := HO.out.c1
        have hOlt : w2.heap.size < wr.heap.size := HO.out.le
        have hback : rtx n1 ps ws.length = s := by rw [rtx_back HED.out hWm _ (Nat.le_refl _)]; exact splB_join HSP.out
        rw [hwn] at hback
        have hsne : 0 < s.size := by
          obtain ⟨a, j1, j2, _⟩ := HED.out
          obtain ⟨j, hj, _⟩ := cut_true j1
          have h3 : 0 < w0.size := by have h4 := (Array.getElem?_eq_some_iff.1 hj).1; exact Nat.lt_of_le_of_lt (Nat.zero_le _) h4
          refine Nat.pos_of_ne_zero fun e => ?_
          have h5 := splB_szs (c := 32) (s := s) (N := 0) (by omega) w0 (by rw [HSP.out]; simp)
          omega
        have hem := emptyN s hsne
        have hRr := blkE hR2 hx
        by_cases hv : vrt n1 ps
        · obtain ⟨g1, g2, g3⟩ := rdo_yes HSP.out HED.out hWm hv HR.out
          obtain rfl := g1.symm
          obtain rfl := g2.symm
          subst g3
          have hl3 : ps.length = k := by rw [hWm.1, hwn]
          have hPX := Lib.hid HO.out.P
          have HRT : Hid (Rtext n1 ps k s) := .inl ⟨hv, hback⟩
          have HX0 := Lib.hid hx
          clear hv hback hWm hbd HW HO HED
          go_wp2_with fail
          (with_reducible refine (implRoutineText_is A1 k c1 ps n1 _ (hPP.ext (by with_reducible (repeat (first | exact Ext.refl _ | apply Ext.drewN | apply Ext.drew | apply Ext.alloc | (refine Ext.set ?_ (by first | (simp; done) | (simp; omega) | omega) _) | (refine Ext.trans ?_ (by assumption)))))) (hT.ext (hE2.trans (hx.trans (by with_reducible (repeat (first | exact Ext.refl _ | apply Ext.drewN | apply Ext.drew | apply Ext.alloc | (refine Ext.set ?_ (by first | (simp; done) | (simp; omega) | omega) _) | (refine Ext.trans ?_ (by assumption)))))))) s HRT.out).mono ?_)
          rintro e w3 ⟨rfl, hx3⟩
          have hp3 : Ext wr w3 := Ext.trans (by with_reducible (repeat (first | exact Ext.refl _ | apply Ext.drewN | apply Ext.drew | apply Ext.alloc | (refine Ext.set ?_ (by first | (simp; done) | (simp; omega) | omega) _) | (refine Ext.trans ?_ (by assumption))))) hx3
          have hR3 := blkE hRr hp3
          have c30 := hp3.cell hOlt hOc0
          have c31 := hp3.cell hOlt hOc1
          obtain ⟨⟨x0, x1⟩, f0, f1⟩ := blk2R hR3
          have HF : Hid (∀ u v : Value, PRow ((w3.setCell ⟨w.heap.size, 0, none⟩ u).setCell ⟨w.heap.size, 1, none⟩ v) w.heap.size ((w3.setCell ⟨w.heap.size, 0, none⟩ u).setCell ⟨w.heap.size, 1, none⟩ v).heap.size A1 k c1 ps ∧ Ext w ((w3.setCell ⟨w.heap.size, 0, none⟩ u).setCell ⟨w.heap.size, 1, none⟩ v)) := fun u v => by
            have hws : w.heap.size < w2.heap.size + 1 := by have := hp2.size; omega
            refine ⟨?_, (((hE2.trans HX0.out).trans hp3).set (p := ⟨w.heap.size, 0, none⟩) (Nat.le_refl _) u).set (p := ⟨w.heap.size, 1, none⟩) (Nat.le_refl _) v⟩
            have h7 := (((hPX.out.ext hp3).far (p := ⟨w.heap.size, 0, none⟩) (.inl hws) u).far (p := ⟨w.heap.size, 1, none⟩) (.inl hws) v)
            exact h7.wide (by omega) (by simp [World.setCell]; exact hp3.size)
          have HL3 := Lib.hid hl3
          clear hPP hx3 hR3 hRr hl3 hOc0 hOc1 hx
          go_wp2
          refine bodyPost_ret (v := .tuple #[.agg #[.int .i64 n1, .slice A1 k c1], .bool true]) (by simp [results, Tryd.results12, go_sem, *]) rfl ⟨A1, c1, by rw [HL3.out], ?_, (HF.out _ _).2⟩
          rw [HL3.out]
          exact (HF.out _ _).1
        · obtain ⟨rfl, rfl, rfl⟩ := rdo_bad HSP.out HED.out hWm hv HR.out
          have HRT : Hid (Rtext n1 ps k ⟨#[]⟩) := .inr ⟨hv, rfl⟩
          have HX0 := Lib.hid hx
          have hnq : ((⟨#[]⟩ : ByteArray).toList == s.toList) = false := neqB (fun e => by rw [← e] at hsne; exact absurd hsne (by decide))
          clear hv hback hWm hbd HW HO HED
          go_wp2_with fail
          (with_reducible refine (implRoutineText_is A1 k c1 ps n1 _ (hPP.ext (by with_reducible (repeat (first | exact Ext.refl _ | apply Ext.drewN | apply Ext.drew | apply Ext.alloc | (refine Ext.set ?_ (by first | (simp; done) | (simp; omega) | omega) _) | (refine Ext.trans ?_ (by assumption)))))) (hT.ext (hE2.trans (hx.trans (by with_reducible (repeat (first | exact Ext.refl _ | apply Ext.drewN | apply Ext.drew | apply Ext.alloc | (refine Ext.set ?_ (by first | (simp; done) | (simp; omega) | omega) _) | (refine Ext.trans ?_ (by assumption)))))))) ⟨#[]⟩ HRT.out).mono ?_)
          rintro e w3 ⟨rfl, hx3⟩
          have hp3 : Ext wr w3 := Ext.trans (by with_reducible (repeat (first | exact Ext.refl _ | apply Ext.drewN | apply Ext.drew | apply Ext.alloc | (refine Ext.set ?_ (by first | (simp; done) | (simp; omega) | omega) _) | (refine Ext.trans ?_ (by assumption))))) hx3
          have hR3 := blkE hRr hp3
          obtain ⟨⟨x0, x1⟩, f0, f1⟩ := blk2R hR3
          have HX := Lib.hid (fun u v : Value => (((hE2.trans HX0.out).trans hp3).set (p := ⟨w.heap.size, 0, none⟩) (Nat.le_refl _) u).set (p := ⟨w.heap.size, 1, none⟩) (Nat.le_refl _) v)
          clear hPP hx3 hR3 hRr hOc0 hOc1 hx hp3
          go_wp2
          exact bodyPost_ret (v := .tuple #[.agg #[.int .i64 0, .slice none 0 0], .bool false]) (by simp [results, Tryd.results12, go_sem, *]) rfl ⟨none, 0, rfl, PRow.nil _ _ _, HX.out _ _⟩
end Go.Proofs.YtinkaglngblddaaDoor
