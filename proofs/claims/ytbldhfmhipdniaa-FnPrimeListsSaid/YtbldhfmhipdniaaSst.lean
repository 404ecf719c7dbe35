/- The memory of a search for patterns: the state's block, the table, the throws, the rows that were found. Plain lemmas. -/
import Derived.Test.YtbldhfmhipdniaaLsp
namespace Go.Proofs.Ytbldhfmhipdniaa
set_option linter.unusedVariables false
set_option linter.unusedSimpArgs false
open Go.ChangeShapes Go.WideShapes Go.ChangeAt Go.RowKit Go.Joins Go.Deep

theorem LRowF.beside {w w' : World} {lo hi : Nat} {A : Option Addr} {n c : Nat} {H : Nat → Option Addr × Nat} {X : Nat → List Int} (h : LRowF w lo hi A n c H X) {row : Option Nat} (k : w.grownBy w' row) (hA : ∀ g, row = some g → A.map (·.block) ≠ some g) (hH : ∀ i, i < n → ∀ g, row = some g → (H i).1.map (·.block) ≠ some g) : LRowF w' lo hi A n c H X := by
  obtain ⟨cs, hr, hc⟩ := h.row
  exact ⟨⟨cs, hr.beside k hA, hc⟩, fun i hi => (h.rows i hi).beside k (hH i hi), h.apart, h.alone⟩
/-- The state's block g, the table's block ub, the row of throws, the rows that were found: all behind w0, all apart. -/
structure Sst (w0 w : World) (g ub n : Nat) (U : Nat → Bool) (At : Option Addr) (ct : Nat) (pre : List Int) (Ao : Option Addr) (co : Nat) (out : List (List Int)) : Prop where
  ext : Ext w0 w
  gl : w0.heap.size ≤ g ∧ g < w.heap.size
  used : RowG w w0.heap.size w.heap.size 4 1 (some ⟨ub, 0, none⟩) n n (usd n U)
  ne : g ≠ ub
  thr : Row w w0.heap.size w.heap.size 2 1 At pre.length ct pre
  thn : ∀ b, At.map (·.block) = some b → b ≠ g ∧ b ≠ ub
  outs : ∃ H, LRowF w w0.heap.size w.heap.size Ao out.length co H (ll out) ∧ (∀ i, i < out.length → ∀ b, (H i).1.map (·.block) = some b → b ≠ g ∧ b ≠ ub ∧ At.map (·.block) ≠ some b) ∧ (∀ b, Ao.map (·.block) = some b → b ≠ g ∧ b ≠ ub ∧ At.map (·.block) ≠ some b)
section
variable {w0 w w' : World} {g ub n : Nat} {U : Nat → Bool} {At : Option Addr} {ct : Nat} {pre : List Int} {Ao : Option Addr} {co : Nat} {out : List (List Int)}
theorem Sst.after (h : Sst w0 w g ub n U At ct pre Ao co out) (k : Ext w w') : Sst w0 w' g ub n U At ct pre Ao co out := by
  obtain ⟨H, hF, h1, h2⟩ := h.outs
  exact ⟨h.ext.trans k, ⟨h.gl.1, Nat.lt_of_lt_of_le h.gl.2 k.size⟩, (h.used.ext k).wide (Nat.le_refl _) k.size, h.ne, (h.thr.ext k).wide (Nat.le_refl _) k.size, h.thn, H, (hF.ext k).wide (Nat.le_refl _) k.size, h1, h2⟩
/-- A cell of the state's block is written. -/
theorem Sst.cell (h : Sst w0 w g ub n U At ct pre Ao co out) (o : Nat) (v : Value) : Sst w0 (w.setCell ⟨g, o, none⟩ v) g ub n U At ct pre Ao co out := by
  have k := only_setCell (World.grownBy.refl w (some g)) (p := ⟨g, o, none⟩) rfl v
  have hs : (w.setCell ⟨g, o, none⟩ v).heap.size = w.heap.size := by simp [World.setCell]
  obtain ⟨H, hF, h1, h2⟩ := h.outs
  refine ⟨h.ext.set (p := ⟨g, o, none⟩) h.gl.1 v, by rw [hs]; exact h.gl, ?_, h.ne, ?_, h.thn, H, ?_, h1, h2⟩
  · rw [hs]; exact h.used.beside k (fun g' e e2 => by cases e; exact h.ne (by simpa using e2.symm))
  · rw [hs]; exact h.thr.beside k (fun g' e e2 => by cases e; exact (h.thn _ e2).1 rfl)
  · rw [hs]; exact hF.beside k (fun g' e e2 => by cases e; exact (h2 _ e2).1 rfl) (fun i hi g' e e2 => by cases e; exact (h1 i hi _ e2).1 rfl)
/-- A beat is marked, or the mark is taken off. -/
theorem Sst.mark (h : Sst w0 w g ub n U At ct pre Ao co out) (j : Nat) (b : Bool) : Sst w0 (w.setCell ⟨ub, j, none⟩ (.bool b)) g ub n (upd U j b) At ct pre Ao co out := by
  have k := only_setCell (World.grownBy.refl w (some ub)) (p := ⟨ub, j, none⟩) rfl (.bool b)
  have hs : (w.setCell ⟨ub, j, none⟩ (.bool b)).heap.size = w.heap.size := by simp [World.setCell]
  have hub := h.used.row_bd ub rfl
  obtain ⟨H, hF, h1, h2⟩ := h.outs
  refine ⟨h.ext.set (p := ⟨ub, j, none⟩) hub.1 _, by rw [hs]; exact h.gl, ?_, h.ne, ?_, h.thn, H, ?_, h1, h2⟩
  · rw [hs, ← usd_set]; exact h.used.store j (.bool b)
  · rw [hs]; exact h.thr.beside k (fun g' e e2 => by cases e; exact (h.thn _ e2).2 rfl)
  · rw [hs]; exact hF.beside k (fun g' e e2 => by cases e; exact (h2 _ e2).2.1 rfl) (fun i hi g' e e2 => by cases e; exact (h1 i hi _ e2).2.1 rfl)
theorem Sst.same (h : Sst w0 w g ub n U At ct pre Ao co out) {V : Nat → Bool} (e : usd n U = usd n V) : Sst w0 w g ub n V At ct pre Ao co out :=
  ⟨h.ext, h.gl, e ▸ h.used, h.ne, h.thr, h.thn, h.outs⟩
/-- A throw is appended. -/
theorem Sst.push (h : Sst w0 w g ub n U At ct pre Ao co out) {At' : Option Addr} {ct' : Nat} {t : Int} (R : Row w' w0.heap.size w'.heap.size 2 1 At' (pre ++ [t]).length ct' (pre ++ [t])) (k : w.grownBy w' (At.map (·.block))) (hat : ∀ b, At'.map (·.block) = some b → At.map (·.block) = some b ∨ w.heap.size ≤ b) : Sst w0 w' g ub n U At' ct' (pre ++ [t]) Ao co out := by
  obtain ⟨H, hF, h1, h2⟩ := h.outs
  have hub := h.used.row_bd ub rfl
  have hF2 := hF.beside k (fun b e e2 => (h2 b e2).2.2 e) (fun i hi b e e2 => (h1 i hi b e2).2.2 e)
  refine ⟨h.ext.grown k (fun b e => (h.thr.row_bd b e).1), ⟨h.gl.1, Nat.lt_of_lt_of_le h.gl.2 k.size⟩, (h.used.beside k (fun b e e2 => (h.thn b e).2 (by simpa using e2.symm))).wide (Nat.le_refl _) k.size, h.ne, R, fun b e => ?_, H, hF2.wide (Nat.le_refl _) k.size, fun i hi b e => ?_, fun b e => ?_⟩
  · rcases hat b e with h3 | h3
    · exact h.thn b h3
    · have := h.gl; exact ⟨by omega, by omega⟩
  · obtain ⟨a1, a2, a3⟩ := h1 i hi b e
    refine ⟨a1, a2, fun e2 => ?_⟩
    rcases hat b e2 with h3 | h3
    · exact a3 h3
    · have := (hF.rows i hi).row_bd b e; omega
  · obtain ⟨a1, a2, a3⟩ := h2 b e
    refine ⟨a1, a2, fun e2 => ?_⟩
    rcases hat b e2 with h3 | h3
    · exact a3 h3
    · obtain ⟨cs, hr, _⟩ := hF.row
      have := hr.row_bd b e; omega
/-- The last throw is taken off. -/
theorem Sst.pop {t : Int} (h : Sst w0 w g ub n U At ct (pre ++ [t]) Ao co out) : Sst w0 w g ub n U At ct pre Ao co out := by
  refine ⟨h.ext, h.gl, h.used, h.ne, ⟨?_, h.thr.top⟩, h.thn, h.outs⟩
  have ho := h.thr.own
  refine ⟨by simp, ?_⟩
  rcases ho.2 with ⟨e, e0⟩ | ⟨b, cap, cur, ev, hb, hg, hc, hm, hz, ht⟩
  · simp at e0
  · simp only [Value.slice.injEq] at ev
    obtain ⟨e1, _, e2⟩ := ev
    subst e1 e2
    rw [List.length_append, List.length_singleton] at hc ht
    refine .inr ⟨b, ct, cur, rfl, hb, hg, by omega, hm, hz, ?_⟩
    have h5 := congrArg (List.take (pre.length * 1)) ht
    rw [List.take_take, Nat.min_eq_left (by omega)] at h5
    rw [h5]
    simp
end
end Go.Proofs.Ytbldhfmhipdniaa
