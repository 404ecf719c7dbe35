/- Routines: appends of parts, copies by the program and the reference. No condition but the stated bounds. -/
import Derived.Test.YtinkaglngblddaaDoorRtm2
import Derived.Test.YtinkaglngblddaaDoorLow
import Derived.Deep.RegionLawGrows
namespace Go.Proofs.YtinkaglngblddaaDoor
set_option linter.unusedVariables false
set_option linter.unusedSimpArgs false
open Go.ChangeShapes Go.WideShapes Go.ChangeAt Go.RowKit Go.Joins Go.Deep

theorem pt_push {ps : List (List Int × Int)} {q : List Int × Int} {n i : Nat} (hl : ps.length = n) (hi : i < n + 1) : upd (pt ps) n q.1 i = pt (ps ++ [q]) i := by
  by_cases e : i = n
  · subst e; subst hl; rw [upd_self]; simp [pt]
  · rw [upd_ne _ _ e]; unfold pt; rw [List.getElem?_append_left (by omega)]
theorem tm_push {ps : List (List Int × Int)} {q : List Int × Int} {n i : Nat} (hl : ps.length = n) (hi : i < n + 1) : upd (tm ps) n q.2 i = tm (ps ++ [q]) i := by
  by_cases e : i = n
  · subst e; subst hl; rw [upd_self]; simp [tm]
  · rw [upd_ne _ _ e]; unfold tm; rw [List.getElem?_append_left (by omega)]
theorem elPart : ElG Tryd.prog 52 2 32 := elG infoPart rfl
/-- A part is appended. -/
theorem PRow.push {W w' : World} {lo hi : Nat} {A : Option Addr} {n c : Nat} {ps : List (List Int × Int)} {H : Nat → Option Addr × Nat} {cs : List Value} (hl : ps.length = n) (hr : RowG W lo hi 52 2 A n c cs) (hc : ∀ i, i < n → cs[i * 2]? = some (.slice (H i).1 (pt ps i).length (H i).2) ∧ cs[i * 2 + 1]? = some (.int .i64 (tm ps i)))
    (h : PRowF W lo hi A n c H (pt ps) (tm ps)) (hhi : hi ≤ W.heap.size) {lo2 hi2 : Nat} {B : Option Addr} {m d : Nat} {xs : List Int} {t : Int} (R : Row W lo2 hi2 2 1 B m d xs) (hm : xs.length = m) (h1 : hi ≤ lo2) (h2 : hi2 ≤ W.heap.size) (h0 : lo ≤ lo2)
    {A' : Option Addr} {c' : Nat} (own : w'.ownsRow lo 52 2 (.slice A' (n + 1) c') (n + 1) (cs ++ [.slice B m d, .int .i64 t])) (hg : W.grownBy w' (A.map (·.block))) (hat : A'.map (·.block) = A.map (·.block) ∨ A'.map (·.block) = some W.heap.size) :
    PRow w' lo w'.heap.size A' (n + 1) c' (ps ++ [(xs, t)]) := by
  have hz := hg.size
  have hcl := hr.len
  subst hm
  refine ⟨by simp [hl], upd H n (B, d), PRowF.congr (X := upd (pt ps) n xs) (T := upd (tm ps) n t) ?_ (fun i hi => pt_push (q := (xs, t)) hl hi) (fun i hi => tm_push (q := (xs, t)) hl hi)⟩
  refine ⟨⟨_, ⟨own, fun a ha => (World.ownsRow.lt own a.block (by rw [ha]; rfl)).2⟩, fun i hi => ?_⟩, fun i hi => ?_, fun i k hi hk hne g' hg' e2 => ?_, fun i hi g' hg' e2 => ?_⟩
  · by_cases e : i = n
    · subst e
      rw [upd_self, upd_self, upd_self]
      refine ⟨?_, ?_⟩
      · rw [List.getElem?_append_right (by omega), hcl, Nat.sub_self]; rfl
      · rw [List.getElem?_append_right (by omega), hcl, show i * 2 + 1 - i * 2 = 1 by omega]; rfl
    · rw [upd_ne _ _ e, upd_ne _ _ e, upd_ne _ _ e, List.getElem?_append_left (by omega), List.getElem?_append_left (by omega)]
      exact hc i (by omega)
  · by_cases e : i = n
    · subst e
      rw [upd_self, upd_self]
      refine (R.beside hg (fun g hg' e => ?_)).wide h0 (by omega)
      have := R.row_bd g e
      have := hr.row_bd g hg'
      omega
    · rw [upd_ne _ _ e, upd_ne _ _ e]
      exact ((h.rows i (by omega)).beside hg (fun g hg' e2 => h.alone i (by omega) g e2 hg')).wide (Nat.le_refl _) (by omega)
  · by_cases e : i = n
    · subst e
      rw [upd_self] at hg'
      rw [upd_ne _ _ (fun e' => hne e'.symm)] at e2
      have := R.row_bd _ hg'
      have := (h.rows k (by omega)).row_bd _ e2
      omega
    · rw [upd_ne _ _ e] at hg'
      by_cases e' : k = n
      · subst e'
        rw [upd_self] at e2
        have := R.row_bd _ e2
        have := (h.rows i (by omega)).row_bd _ hg'
        omega
      · rw [upd_ne _ _ e'] at e2
        exact h.apart i k (by omega) (by omega) hne g' hg' e2
  · by_cases e : i = n
    · subst e
      rw [upd_self] at hg'
      have := R.row_bd _ hg'
      rcases hat with h3 | h3
      · rw [h3] at e2
        have := hr.row_bd _ e2
        omega
      · rw [h3] at e2
        simp at e2
        omega
    · rw [upd_ne _ _ e] at hg'
      rcases hat with h3 | h3
      · rw [h3] at e2
        exact h.alone i (by omega) g' hg' e2
      · rw [h3] at e2
        have := (h.rows i (by omega)).row_bd _ hg'
        simp at e2
        omega
/-- 'append(parts, part)' at a step of a region that draws. -/
theorem stepP {W : World} {ops : Array Oper} {o : Oper} {a : Act} {K : Act → World → Prop} {Q : Exit → Act → World → Prop} {E : Prop} (hgd : o.guard = none) (s x : Operand)
    (ho : o.op = .call { callee := .builtin .append, args := #[s, x], argTypes := #[27, 27] }) {lo hi : Nat} {A : Option Addr} {n c : Nat} {ps : List (List Int × Int)} (hs : a.eval s = .slice A n c) (hown : PRow W lo hi A n c ps) (hn : n ≤ 1000)
    {b : Nat} (hx : a.eval x = .slice (some ⟨b, 0, none⟩) 1 1) {ar : Array Value} {t' : TypeId} {fr : Nat × Nat} (hB : W.heap[b]? = some (.cells ar t' fr)) {lo2 hi2 : Nat} {B : Option Addr} {m d : Nat} {xs : List Int} {t : Int} (hc : ar.toList = [.slice B m d, .int .i64 t]) (R : Row W lo2 hi2 2 1 B m d xs) (hm : xs.length = m)
    (h1 : hi ≤ lo2) (h2 : hi2 ≤ W.heap.size) (h0 : lo ≤ lo2) (h3 : lo2 ≤ hi2)
    (h : ∀ A' c' w', PRow w' lo w'.heap.size A' (n + 1) c' (ps ++ [(xs, t)]) → W.grownBy w' (A.map (·.block)) → K (a.put o.dst (.slice A' (n + 1) c')) w') :
    if Region.wanted o (yielded ops a.tmps) = true then Oper.wp Tryd.prog o a W K Q else E := by
  have hw : Region.wanted o (yielded ops a.tmps) = true := by simp [Region.wanted, hgd]
  rw [if_pos hw]
  obtain ⟨i, z, hi', hz0, hz1, hz2, hz3⟩ := elPart
  obtain ⟨H, hF⟩ := hown.rows
  obtain ⟨cs, hr, hcc⟩ := hF.row
  obtain ⟨v', w', hrun, k2, k3, _, k5⟩ := run_append_own_at (P := Tryd.prog) W lo 27 o.type 52 i z 2 32 Tryd.underlying27 hi' hz0 hz1 hz2 hz3 (by omega) (.slice A n c) n _ hr.own ⟨b, 0, none⟩ 1 1 [.slice B m d, .int .i64 t] rfl (newsG hB hc) (by intro u hu; simp at hu; rcases hu with rfl | rfl <;> rfl) (by unfold maxLen; omega) (by omega) (by omega)
  unfold Oper.wp execOp
  simp only [ho, resolve, invoke, builtin, Sem.run_bind, Sem.run_pure, Result.andThen_ok, List.map_toArray, List.map_cons, List.map_nil, hs, hx, hrun]
  obtain ⟨A', c', rfl⟩ : ∃ A' c', v' = .slice A' (n + 1) c' := by
    rcases ownsRow_forms k2 with ⟨rfl, e0⟩ | ⟨g, cap, rfl⟩
    · omega
    · exact ⟨_, _, rfl⟩
  have k3' : W.grownBy w' (A.map (·.block)) := by cases A <;> exact k3
  refine h _ _ _ (PRow.push hown.len hr hcc hF (by omega) R hm h1 h2 h0 k2 k3' ?_) k3'
  cases A <;> cases A' <;> exact k5
/-- What a loop of appends has done: the box b holds a number h and the parts ps. -/
structure Outs (wr : World) (b lo : Nat) (h : Int) (k : Nat) (qs : List (List Int × Int)) (A : Option Addr) (c : Nat) : Prop where
  c0 : wr.cell? ⟨b, 0, none⟩ = some (.int .i64 h)
  c1 : wr.cell? ⟨b, 1, none⟩ = some (.slice A k c)
  fz : ∀ o, wr.frozen? ⟨b, o, none⟩ = false
  lt : b < lo
  le : lo ≤ wr.heap.size
  P : PRow wr lo wr.heap.size A k c qs
theorem Outs.push {W w3 : World} {b lo k : Nat} {h : Int} {qs qs' : List (List Int × Int)} {A A3 : Option Addr} {c c3 : Nat} (h0 : Outs W b lo h k qs A c) (P3 : PRow w3 lo w3.heap.size A3 (k + 1) c3 qs') (hg : W.grownBy w3 (A.map (·.block))) :
    w3.cell? ⟨b, 1, none⟩ = some (.slice A k c) ∧ (∀ o, w3.frozen? ⟨b, o, none⟩ = false) ∧ Outs (w3.setCell ⟨b, 1, none⟩ (.slice A3 (k + 1) c3)) b lo h (k + 1) qs' A3 c3 := by
  have hlt := h0.lt
  have hle := h0.le
  have hz := hg.size
  have hne : ∀ g, A.map (·.block) = some g → ¬ b = g := fun g hg' e => by
    obtain ⟨H, hF⟩ := h0.P.rows
    obtain ⟨cs, hr, _⟩ := hF.row
    have := hr.row_bd g hg'
    omega
  have hb : w3.heap[b]? = W.heap[b]? := hg.block b (by omega) (fun e => hne b e.symm rfl)
  have e1 : w3.cell? ⟨b, 1, none⟩ = some (.slice A k c) := (World.cell?_of_block hb).trans h0.c1
  have e0 : w3.cell? ⟨b, 0, none⟩ = some (.int .i64 h) := (World.cell?_of_block hb).trans h0.c0
  have ef : ∀ o, w3.frozen? ⟨b, o, none⟩ = false := fun o => by
    have h3 := h0.fz o
    unfold World.frozen? at h3 ⊢
    rw [hb]
    exact h3
  refine ⟨e1, ef, ?_, ?_, ?_, hlt, ?_, ?_⟩
  · rw [World.cell?_setCell_other _ _ _ _ (fun e => by cases e)]; exact e0
  · exact World.cell?_setCell_same _ _ _ e1
  · intro o; simpa using ef o
  · simp [World.setCell]; omega
  · have := P3.far (p := ⟨b, 1, none⟩) (.inl hlt) (.slice A3 (k + 1) c3)
    simpa [World.setCell] using this
theorem Outs.ext {W w' : World} {b lo k : Nat} {h : Int} {qs : List (List Int × Int)} {A : Option Addr} {c : Nat} (h0 : Outs W b lo h k qs A c) (x : Ext W w') : Outs w' b lo h k qs A c := by
  have hlt := h0.lt
  have hle := h0.le
  exact ⟨x.cell (by omega) h0.c0, x.cell (by omega) h0.c1, fun o => (x.cells.2 _ o (by omega)).trans (h0.fz o), hlt, Nat.le_trans hle x.size, (h0.P.ext x).wide (Nat.le_refl _) x.size⟩
set_option maxHeartbeats 1000000 in
theorem l19Own_any (b o : Nat) (B : Option Addr) (m c : Nat) (xs : List Int) (t : Int) (w : World) (hb : b < w.heap.size) (c0 : w.cell? ⟨b, o, none⟩ = some (.slice B m c)) (c1 : w.cell? ⟨b, o + 1, none⟩ = some (.int .i64 t)) (hI : Ints w B m xs) (hm : m ≤ 1000) :
    Calls Tryd.prog 70 #[.pointer (some ⟨b, o, none⟩)] w (RetPartR w m xs t) := by
  have hbn : b ≠ w.heap.size := by omega
  have hnb : w.heap.size ≠ b := by omega
  go_enter Tryd.func70, Tryd.ntmps70
  go_wp2
  go_region_law (first | (go_simp; go_at_call 87; (with_reducible refine (l00Own_any B m c xs _ (hI.ext (by with_reducible (repeat (first | exact Ext.refl _ | apply Ext.drewN | apply Ext.drew | apply Ext.alloc | (refine Ext.set ?_ (by first | (simp; done) | (simp; omega) | omega) _) | (refine Ext.trans ?_ (by assumption)))))) (by omega)).mono ?_); rintro e w2 ⟨A2, c2, rfl, ho2⟩; have hx2 := ho2.ext; have q2 : w.heap.size < w2.heap.size := Nat.lt_of_lt_of_le (by first | (simp; done) | (simp; omega) | omega) hx2.size; have k0 : ∀ o, w2.cell? ⟨w.heap.size, o, none⟩ = _ := fun o => hx2.cells.1 _ o (by first | (simp; done) | (simp; omega) | omega); have f0 : ∀ o, w2.frozen? ⟨w.heap.size, o, none⟩ = _ := fun o => hx2.cells.2 _ o (by first | (simp; done) | (simp; omega) | omega); have k1 : ∀ o, w2.cell? ⟨b, o, none⟩ = _ := fun o => hx2.cells.1 _ o (by first | (simp; done) | (simp; omega) | omega)))
  all_goals (have HR : Hid (Row w2 (w.heap.size + 1) w2.heap.size 2 1 A2 m c2 xs) := (by show Row _ _ _ _ _ _ _ _ _; exact ⟨by simpa using ho2.own, fun a ha => (World.ownsRow.lt ho2.own a.block (by rw [ha]; rfl)).2⟩))
  all_goals (clear ho2; go_wp2; refine bodyPost_ret (v := .agg #[.slice A2 m c2, .int .i64 t]) (by simp [results, Tryd.results70, go_sem, *]) rfl ⟨A2, c2, rfl, ?_, (by with_reducible (repeat (first | exact Ext.refl _ | apply Ext.drewN | apply Ext.drew | apply Ext.alloc | (refine Ext.set ?_ (by first | (simp; done) | (simp; omega) | omega) _) | (refine Ext.trans ?_ (by assumption)))))⟩)
  all_goals (refine Row.wide (lo := w.heap.size + 1) (hi := w2.heap.size) ?_ (by omega) (by simp [World.setCell]); repeat' apply Row.otherCell)
  all_goals (first | exact HR.out | (intro e; have := HR.out.row_bd _ e; (try simp at this); (try omega)))
end Go.Proofs.YtinkaglngblddaaDoor
