/- The memory of a search for patterns: blocks of states, the table, the throws, the rows that were found; a row is appended to them. No condition but the stated bounds. -/
import Derived.Test.YtbldhfmhipdniaaSfo
namespace Go.Proofs.Ytbldhfmhipdniaa
set_option linter.unusedVariables false
set_option linter.unusedSimpArgs false
open Go.ChangeShapes Go.WideShapes Go.ChangeAt Go.RowKit Go.Joins Go.Deep

/-- Blocks of states R, the table's block ub, the row of throws, the rows that were found: all behind w0, all apart. -/
structure Pst (w0 w : World) (R : List Nat) (ub n : Nat) (U : Nat → Bool) (At : Option Addr) (ct : Nat) (pre : List Int) (Ao : Option Addr) (co : Nat) (out : List (List Int)) : Prop where
  ext : Ext w0 w
  gl : ∀ g ∈ R, w0.heap.size ≤ g ∧ g < w.heap.size
  used : RowG w w0.heap.size w.heap.size 4 1 (some ⟨ub, 0, none⟩) n n (usd n U)
  ne : ub ∉ R
  thr : Row w w0.heap.size w.heap.size 2 1 At pre.length ct pre
  thn : ∀ b, At.map (·.block) = some b → b ∉ R ∧ b ≠ ub
  outs : ∃ H, LRowF w w0.heap.size w.heap.size Ao out.length co H (ll out) ∧ (∀ i, i < out.length → ∀ b, (H i).1.map (·.block) = some b → b ∉ R ∧ b ≠ ub ∧ At.map (·.block) ≠ some b) ∧ (∀ b, Ao.map (·.block) = some b → b ∉ R ∧ b ≠ ub ∧ At.map (·.block) ≠ some b)
section
variable {w0 w w' : World} {R : List Nat} {g ub n : Nat} {U : Nat → Bool} {At : Option Addr} {ct : Nat} {pre : List Int} {Ao : Option Addr} {co : Nat} {out : List (List Int)}
theorem Pst.after (h : Pst w0 w R ub n U At ct pre Ao co out) (k : Ext w w') : Pst w0 w' R ub n U At ct pre Ao co out := by
  obtain ⟨H, hF, h1, h2⟩ := h.outs
  exact ⟨h.ext.trans k, fun g hg => ⟨(h.gl g hg).1, Nat.lt_of_lt_of_le (h.gl g hg).2 k.size⟩, (h.used.ext k).wide (Nat.le_refl _) k.size, h.ne, (h.thr.ext k).wide (Nat.le_refl _) k.size, h.thn, H, (hF.ext k).wide (Nat.le_refl _) k.size, h1, h2⟩
/-- A cell of the state's block is written. -/
theorem Pst.cell (h : Pst w0 w R ub n U At ct pre Ao co out) (hm : g ∈ R) (o : Nat) (v : Value) : Pst w0 (w.setCell ⟨g, o, none⟩ v) R ub n U At ct pre Ao co out := by
  have k := only_setCell (World.grownBy.refl w (some g)) (p := ⟨g, o, none⟩) rfl v
  have hs : (w.setCell ⟨g, o, none⟩ v).heap.size = w.heap.size := by simp [World.setCell]
  obtain ⟨H, hF, h1, h2⟩ := h.outs
  refine ⟨h.ext.set (p := ⟨g, o, none⟩) (h.gl g hm).1 v, by rw [hs]; exact h.gl, ?_, h.ne, ?_, h.thn, H, ?_, h1, h2⟩
  · rw [hs]; exact h.used.beside k (fun g' e e2 => by cases e; exact h.ne ((show ub = g by simpa using e2) ▸ hm))
  · rw [hs]; exact h.thr.beside k (fun g' e e2 => by cases e; exact (h.thn _ e2).1 hm)
  · rw [hs]; exact hF.beside k (fun g' e e2 => by cases e; exact (h2 _ e2).1 hm) (fun i hi g' e e2 => by cases e; exact (h1 i hi _ e2).1 hm)
/-- A beat is marked, or the mark is taken off. -/
theorem Pst.mark (h : Pst w0 w R ub n U At ct pre Ao co out) (j : Nat) (b : Bool) : Pst w0 (w.setCell ⟨ub, j, none⟩ (.bool b)) R ub n (upd U j b) At ct pre Ao co out := by
  have k := only_setCell (World.grownBy.refl w (some ub)) (p := ⟨ub, j, none⟩) rfl (.bool b)
  have hs : (w.setCell ⟨ub, j, none⟩ (.bool b)).heap.size = w.heap.size := by simp [World.setCell]
  have hub := h.used.row_bd ub rfl
  obtain ⟨H, hF, h1, h2⟩ := h.outs
  refine ⟨h.ext.set (p := ⟨ub, j, none⟩) hub.1 _, by rw [hs]; exact h.gl, ?_, h.ne, ?_, h.thn, H, ?_, h1, h2⟩
  · rw [hs, ← usd_set]; exact h.used.store j (.bool b)
  · rw [hs]; exact h.thr.beside k (fun g' e e2 => by cases e; exact (h.thn _ e2).2 rfl)
  · rw [hs]; exact hF.beside k (fun g' e e2 => by cases e; exact (h2 _ e2).2.1 rfl) (fun i hi g' e e2 => by cases e; exact (h1 i hi _ e2).2.1 rfl)
theorem Pst.same (h : Pst w0 w R ub n U At ct pre Ao co out) {V : Nat → Bool} (e : usd n U = usd n V) : Pst w0 w R ub n V At ct pre Ao co out :=
  ⟨h.ext, h.gl, e ▸ h.used, h.ne, h.thr, h.thn, h.outs⟩
/-- A throw is appended. -/
theorem Pst.push (h : Pst w0 w R ub n U At ct pre Ao co out) {At' : Option Addr} {ct' : Nat} {t : Int} (RR : Row w' w0.heap.size w'.heap.size 2 1 At' (pre ++ [t]).length ct' (pre ++ [t])) (k : w.grownBy w' (At.map (·.block))) (hat : ∀ b, At'.map (·.block) = some b → At.map (·.block) = some b ∨ w.heap.size ≤ b) : Pst w0 w' R ub n U At' ct' (pre ++ [t]) Ao co out := by
  obtain ⟨H, hF, h1, h2⟩ := h.outs
  have hub := h.used.row_bd ub rfl
  have hF2 := hF.beside k (fun b e e2 => (h2 b e2).2.2 e) (fun i hi b e e2 => (h1 i hi b e2).2.2 e)
  refine ⟨h.ext.grown k (fun b e => (h.thr.row_bd b e).1), fun g hg => ⟨(h.gl g hg).1, Nat.lt_of_lt_of_le (h.gl g hg).2 k.size⟩, (h.used.beside k (fun b e e2 => (h.thn b e).2 (by simpa using e2.symm))).wide (Nat.le_refl _) k.size, h.ne, RR, fun b e => ?_, H, hF2.wide (Nat.le_refl _) k.size, fun i hi b e => ?_, fun b e => ?_⟩
  · rcases hat b e with h3 | h3
    · exact h.thn b h3
    · exact ⟨fun hm => by have := h.gl b hm; omega, by omega⟩
  · obtain ⟨a1, a2, a3⟩ := h1 i hi b e
    refine ⟨a1, a2, fun e2 => ?_⟩
    rcases hat b e2 with h3 | h3
    · exact a3 h3
    · have := (hF.rows i hi).row_bd b e; omega
  · obtain ⟨a1, a2, a3⟩ := h2 b e
    refine ⟨a1, a2, fun e2 => ?_⟩
    rcases hat b e2 with h3 | h3
    · exact a3 h3
    · obtain ⟨cs, hr, _⟩ := hF.row
      have := hr.row_bd b e; omega
/-- The last throw is taken off. -/
theorem Pst.pop {t : Int} (h : Pst w0 w R ub n U At ct (pre ++ [t]) Ao co out) : Pst w0 w R ub n U At ct pre Ao co out := by
  refine ⟨h.ext, h.gl, h.used, h.ne, ⟨?_, h.thr.top⟩, h.thn, h.outs⟩
  have ho := h.thr.own
  refine ⟨by simp, ?_⟩
  rcases ho.2 with ⟨e, e0⟩ | ⟨b, cap, cur, ev, hb, hg, hc, hm, hz, ht⟩
  · simp at e0
  · simp only [Value.slice.injEq] at ev
    obtain ⟨e1, _, e2⟩ := ev
    subst e1 e2
    rw [List.length_append, List.length_singleton] at hc ht
    refine .inr ⟨b, ct, cur, rfl, hb, hg, by omega, hm, hz, ?_⟩
    have h5 := congrArg (List.take (pre.length * 1)) ht
    rw [List.take_take, Nat.min_eq_left (by omega)] at h5
    rw [h5]
    simp
end
theorem Pst.found {w0 Wb W w' : World} {R : List Nat} {ub n : Nat} {U : Nat → Bool} {At : Option Addr} {ct : Nat} {pre : List Int} {Ao : Option Addr} {co : Nat} {out : List (List Int)} (h : Pst w0 Wb R ub n U At ct pre Ao co out) (hx : Ext Wb W) {H : Nat → Option Addr × Nat}
    (hF : LRowF Wb w0.heap.size Wb.heap.size Ao out.length co H (ll out)) (q1 : ∀ i, i < out.length → ∀ b, (H i).1.map (·.block) = some b → b ∉ R ∧ b ≠ ub ∧ At.map (·.block) ≠ some b) (q2 : ∀ b, Ao.map (·.block) = some b → b ∉ R ∧ b ≠ ub ∧ At.map (·.block) ≠ some b)
    {cs : List Value} (hr : RowG Wb w0.heap.size Wb.heap.size 30 1 Ao out.length co cs) (hc : ∀ i, i < out.length → cs[i]? = some (.slice (H i).1 (ll out i).length (H i).2))
    {lo2 hi2 : Nat} {B : Option Addr} {m d : Nat} {xs : List Int} (RR : Row W lo2 hi2 2 1 B m d xs) (hm : xs.length = m) (h1 : Wb.heap.size ≤ lo2) (h2 : hi2 ≤ W.heap.size)
    {A' : Option Addr} {c' : Nat} (own : w'.ownsRow w0.heap.size 30 1 (.slice A' (out.length + 1) c') (out.length + 1) (cs ++ [.slice B m d])) (hg : W.grownBy w' (Ao.map (·.block))) (hat : A'.map (·.block) = Ao.map (·.block) ∨ A'.map (·.block) = some W.heap.size) :
    Pst w0 w' R ub n U At ct pre A' c' (out ++ [xs]) := by
  have hz := hg.size
  have hz1 := hx.size
  have hz0 := h.ext.size
  have hcl := hr.len
  have hub := h.used.row_bd ub rfl
  subst hm
  have hb0 : ∀ b, Ao.map (·.block) = some b → w0.heap.size ≤ b ∧ b < Wb.heap.size := fun b e => hr.row_bd b e
  refine ⟨(h.ext.trans hx).grown hg (fun b e => (hb0 b e).1), fun g hm => by have := h.gl g hm; omega, ((h.used.ext hx).beside hg (fun b e e2 => (q2 b e).2.1 (by simpa using e2.symm))).wide (Nat.le_refl _) (by omega), h.ne, ((h.thr.ext hx).beside hg (fun b e e2 => (q2 b e).2.2 e2)).wide (Nat.le_refl _) (by omega), h.thn, upd H out.length (B, d), ?_, fun i hi b hb => ?_, fun b hb => ?_⟩
  · rw [List.length_append, List.length_singleton]
    refine LRowF.congr (X := upd (ll out) out.length xs) ?_ (fun i hi => ll_push hi)
    refine ⟨⟨_, ⟨own, fun a ha => (World.ownsRow.lt own a.block (by rw [ha]; rfl)).2⟩, fun i hi => ?_⟩, fun i hi => ?_, fun i k hi hk hne g' hg' e2 => ?_, fun i hi g' hg' e2 => ?_⟩
    · by_cases e : i = out.length
      · subst e
        rw [upd_self, upd_self, List.getElem?_append_right (by omega), hcl, show out.length - out.length * 1 = 0 by omega]
        rfl
      · rw [upd_ne _ _ e, upd_ne _ _ e, List.getElem?_append_left (by omega)]
        exact hc i (by omega)
    · by_cases e : i = out.length
      · subst e
        rw [upd_self, upd_self]
        refine (RR.beside hg (fun g hg' e => ?_)).wide (by omega) (by omega)
        have := RR.row_bd g e
        have := hb0 g hg'
        omega
      · rw [upd_ne _ _ e, upd_ne _ _ e]
        exact (((hF.rows i (by omega)).ext hx).beside hg (fun g hg' e2 => hF.alone i (by omega) g e2 hg')).wide (Nat.le_refl _) (by omega)
    · by_cases e : i = out.length
      · subst e
        rw [upd_self] at hg'
        rw [upd_ne _ _ (fun e' => hne e'.symm)] at e2
        have := RR.row_bd _ hg'
        have := (hF.rows k (by omega)).row_bd _ e2
        omega
      · rw [upd_ne _ _ e] at hg'
        by_cases e' : k = out.length
        · subst e'
          rw [upd_self] at e2
          have := RR.row_bd _ e2
          have := (hF.rows i (by omega)).row_bd _ hg'
          omega
        · rw [upd_ne _ _ e'] at e2
          exact hF.apart i k (by omega) (by omega) hne g' hg' e2
    · by_cases e : i = out.length
      · subst e
        rw [upd_self] at hg'
        have := RR.row_bd _ hg'
        rcases hat with h3 | h3
        · rw [h3] at e2
          have := hb0 _ e2
          omega
        · rw [h3] at e2
          simp at e2
          omega
      · rw [upd_ne _ _ e] at hg'
        rcases hat with h3 | h3
        · rw [h3] at e2
          exact hF.alone i (by omega) g' hg' e2
        · rw [h3] at e2
          have := (hF.rows i (by omega)).row_bd _ hg'
          simp at e2
          omega
  · rw [List.length_append, List.length_singleton] at hi
    by_cases e : i = out.length
    · subst e
      rw [upd_self] at hb
      have := RR.row_bd _ hb
      exact ⟨fun hm => by have := h.gl _ hm; omega, by omega, fun e2 => by have := h.thr.row_bd _ e2; omega⟩
    · rw [upd_ne _ _ e] at hb
      exact q1 i (by omega) b hb
  · rcases hat with h3 | h3
    · exact q2 b (h3 ▸ hb)
    · rw [h3] at hb
      simp at hb
      exact ⟨fun hm => by have := h.gl _ hm; omega, by omega, fun e2 => by have := h.thr.row_bd _ e2; omega⟩
/-- 'append(out, p)' at a step of a region that draws. -/
theorem stepPL {w0 Wb W : World} {ops : Array Oper} {o : Oper} {a : Act} {K : Act → World → Prop} {Q : Exit → Act → World → Prop} {E : Prop} (hgd : o.guard = none) (s x : Operand)
    (ho : o.op = .call { callee := .builtin .append, args := #[s, x], argTypes := #[25, 25] }) {R : List Nat} {ub n : Nat} {U : Nat → Bool} {At : Option Addr} {ct : Nat} {pre : List Int} {Ao : Option Addr} {co : Nat} {out : List (List Int)} (hs : a.eval s = .slice Ao out.length co) (h : Pst w0 Wb R ub n U At ct pre Ao co out) (hx : Ext Wb W) (hn : out.length ≤ 1000000)
    {b : Nat} (hxe : a.eval x = .slice (some ⟨b, 0, none⟩) 1 1) {ar : Array Value} {t' : TypeId} {fr : Nat × Nat} (hB : W.heap[b]? = some (.cells ar t' fr)) {lo2 hi2 : Nat} {B : Option Addr} {m d : Nat} {xs : List Int} (hc : ar.toList = [.slice B m d]) (RR : Row W lo2 hi2 2 1 B m d xs) (hm : xs.length = m)
    (h1 : Wb.heap.size ≤ lo2) (h2 : hi2 ≤ W.heap.size)
    (k : ∀ A' c' w', Pst w0 w' R ub n U At ct pre A' c' (out ++ [xs]) → W.grownBy w' (Ao.map (·.block)) → K (a.put o.dst (.slice A' (out.length + 1) c')) w') :
    if Region.wanted o (yielded ops a.tmps) = true then Oper.wp Try.prog o a W K Q else E := by
  have hw : Region.wanted o (yielded ops a.tmps) = true := by simp [Region.wanted, hgd]
  rw [if_pos hw]
  obtain ⟨i, z, hi', hz0, hz1, hz2, hz3⟩ := elRow
  obtain ⟨H, hF, q1, q2⟩ := h.outs
  obtain ⟨cs, hr, hcc⟩ := hF.row
  have hlo : w0.heap.size ≤ W.heap.size := Nat.le_trans h.ext.size hx.size
  obtain ⟨v', w', hrun, k2, k3, _, k5⟩ := run_append_own_at (P := Try.prog) W w0.heap.size 25 o.type 30 i z 1 24 Try.underlying25 hi' hz0 hz1 hz2 hz3 (by omega) (.slice Ao out.length co) out.length _ (hr.ext hx).own ⟨b, 0, none⟩ 1 1 [.slice B m d] rfl (newsG hB hc) (by intro u hu; simp at hu; subst hu; rfl) (by unfold maxLen; omega) (by omega) (by omega)
  unfold Oper.wp execOp
  simp only [ho, resolve, invoke, builtin, Sem.run_bind, Sem.run_pure, Result.andThen_ok, List.map_toArray, List.map_cons, List.map_nil, hs, hxe, hrun]
  obtain ⟨A', c', rfl⟩ : ∃ A' c', v' = .slice A' (out.length + 1) c' := by
    rcases ownsRow_forms k2 with ⟨rfl, e0⟩ | ⟨g, cap, rfl⟩
    · omega
    · exact ⟨_, _, rfl⟩
  have k3' : W.grownBy w' (Ao.map (·.block)) := by cases Ao <;> exact k3
  refine k _ _ _ (h.found hx hF q1 q2 hr hcc RR hm h1 h2 k2 k3' ?_) k3'
  cases Ao <;> cases A' <;> exact k5
end Go.Proofs.Ytbldhfmhipdniaa
