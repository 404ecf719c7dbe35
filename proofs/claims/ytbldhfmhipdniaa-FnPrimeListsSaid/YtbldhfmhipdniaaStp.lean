/- The program's search for patterns by a function that is handed over: words, plain laws. Plain lemmas. -/
import Derived.Test.YtbldhfmhipdniaaPst
import Derived.Test.YtbldhfmhipdniaaLw4
namespace Go.Proofs.Ytbldhfmhipdniaa
set_option linter.unusedVariables false
set_option linter.unusedSimpArgs false
open Go.ChangeShapes Go.WideShapes Go.ChangeAt Go.RowKit Go.Joins Go.Deep

/-- The function F takes what was found, and a pattern; it says what is found now, and whether to go on. -/
def runF {σ : Type} (F : σ → List Int → σ × Bool) : List (List Int) → σ → σ × Bool
  | [], o => (o, true)
  | p :: L, o => if (F o p).2 = true then runF F L (F o p).1 else F o p
section
variable {σ : Type} {F : σ → List Int → σ × Bool}
theorem runF_cons (p : List Int) (L : List (List Int)) (o : σ) : runF F (p :: L) o = if (F o p).2 = true then runF F L (F o p).1 else F o p := rfl
theorem runF_append : ∀ (A B : List (List Int)) (o : σ), runF F (A ++ B) o = if (runF F A o).2 = true then runF F B (runF F A o).1 else runF F A o
  | [], B, o => by simp [runF]
  | p :: A, B, o => by
    rw [List.cons_append, runF_cons, runF_cons]
    by_cases h : (F o p).2 = true
    · rw [if_pos h, if_pos h]; exact runF_append A B _
    · rw [if_neg h, if_neg h, if_neg h]
theorem runF_one (p : List Int) (o : σ) : runF F [p] o = F o p := by
  rw [runF_cons]
  by_cases h : (F o p).2 = true
  · rw [if_pos h]; show (_, true) = _; rw [← h]
  · rw [if_neg h]
theorem runF_stop {A B : List (List Int)} {o : σ} (h : (runF F A o).2 = false) : runF F (A ++ B) o = runF F A o := by rw [runF_append, if_neg (by rw [h]; simp)]
theorem runF_go {A B : List (List Int)} {o : σ} (h : (runF F A o).2 = true) : runF F (A ++ B) o = runF F B (runF F A o).1 := by rw [runF_append, if_pos h]
/-- What is asked of a bound: k patterns may still come. -/
structure OkF (F : σ → List Int → σ × Bool) (Ok : Nat → σ → Prop) : Prop where
  less : ∀ k j o, j ≤ k → Ok k o → Ok j o
  step : ∀ k o p, Ok (k + 1) o → (F o p).2 = true → Ok k (F o p).1
theorem OkF.run {Ok : Nat → σ → Prop} (h : OkF F Ok) : ∀ (A : List (List Int)) (k : Nat) (o : σ), Ok (A.length + k) o → (runF F A o).2 = true → Ok k (runF F A o).1
  | [], k, o, h1, _ => by simpa [runF] using h1
  | p :: A, k, o, h1, h2 => by
    rw [runF_cons] at h2 ⊢
    by_cases hp : (F o p).2 = true
    · rw [if_pos hp] at h2 ⊢
      exact OkF.run h A k _ (h.step _ _ _ (by rw [List.length_cons] at h1; rwa [show A.length + 1 + k = A.length + k + 1 by omega] at h1) hp) h2
    · rw [if_neg hp] at h2
      exact absurd h2 hp
end
theorem stepTP {w0 Wb W : World} {ops : Array Oper} {o : Oper} {a : Act} {K : Act → World → Prop} {Q : Exit → Act → World → Prop} {E : Prop} (hgd : o.guard = none) (s x : Operand)
    (ho : o.op = .call { callee := .builtin .append, args := #[s, x], argTypes := #[30, 30] }) {R : List Nat} {ub n : Nat} {U : Nat → Bool} {At : Option Addr} {ct : Nat} {pre : List Int} {Ao : Option Addr} {co : Nat} {out : List (List Int)} (hs : a.eval s = .slice At pre.length ct) (h : Pst w0 Wb R ub n U At ct pre Ao co out) (hx : Ext Wb W) (hn : pre.length ≤ 1000) {B : Nat} {t : Int}
    (hxe : a.eval x = .slice (some ⟨B, 0, none⟩) 1 1) {cs : Array Value} {t' : TypeId} {fr : Nat × Nat} (hB : W.heap[B]? = some (.cells cs t' fr)) (hc : cs.toList = [.int .i64 t])
    (k : ∀ A' c' w', Pst w0 w' R ub n U A' c' (pre ++ [t]) Ao co out → W.grownBy w' (At.map (·.block)) → K (a.put o.dst (.slice A' (pre.length + 1) c')) w') :
    if Region.wanted o (yielded ops a.tmps) = true then Oper.wp Try.prog o a W K Q else E := by
  have hw : Region.wanted o (yielded ops a.tmps) = true := by simp [Region.wanted, hgd]
  rw [if_pos hw]
  obtain ⟨i, z, hi, hz0, hz1, hz2, hz3⟩ := elInt
  have h2 := h.after hx
  have hlo : w0.heap.size ≤ W.heap.size := h2.ext.size
  obtain ⟨v', w', hrun, k2, k3, _, k5⟩ := run_append_own_at (P := Try.prog) W w0.heap.size 30 o.type 2 i z 1 8 Try.underlying30 hi hz0 hz1 hz2 hz3 (by omega) (.slice At pre.length ct) pre.length _ h2.thr.own ⟨B, 0, none⟩ 1 1 [.int .i64 t] rfl (newsG hB hc) (by intro u hu; simp at hu; subst hu; rfl) (by unfold maxLen; omega) (by omega) (by omega)
  unfold Oper.wp execOp
  simp only [ho, resolve, invoke, builtin, Sem.run_bind, Sem.run_pure, Result.andThen_ok, List.map_toArray, List.map_cons, List.map_nil, hs, hxe, hrun]
  obtain ⟨A', c', rfl⟩ : ∃ A' c', v' = .slice A' (pre.length + 1) c' := by
    rcases ownsRow_forms k2 with ⟨rfl, e0⟩ | ⟨g, cap, rfl⟩
    · omega
    · exact ⟨_, _, rfl⟩
  have k3' : W.grownBy w' (At.map (·.block)) := by cases At <;> exact k3
  refine k _ _ _ (h2.push ⟨by simpa using k2, fun a ha => (World.ownsRow.lt k2 a.block (by rw [ha]; rfl)).2⟩ k3' (fun b e => ?_)) k3'
  have k6 : A'.map (·.block) = At.map (·.block) ∨ A'.map (·.block) = some W.heap.size := by cases At <;> cases A' <;> exact k5
  rcases k6 with h1 | h1
  · left; rw [← h1]; exact e
  · right; rw [h1] at e; simp at e; omega
/-- The cells of the program's search. -/
structure C58 (w : World) (g ub n h : Nat) (fn : Value) (At : Option Addr) (k ct : Nat) : Prop where
  c0 : w.cell? ⟨g, 0, none⟩ = some (.int .i64 n)
  c1 : w.cell? ⟨g, 1, none⟩ = some (.int .i64 h)
  c2 : w.cell? ⟨g, 2, none⟩ = some (.slice At k ct)
  c3 : w.cell? ⟨g, 3, none⟩ = some (.slice (some ⟨ub, 0, none⟩) n n)
  c4 : w.cell? ⟨g, 4, none⟩ = some fn
  fz : ∀ o, w.frozen? ⟨g, o, none⟩ = false
theorem C58.keep {w w' : World} {g ub n h : Nat} {fn : Value} {At : Option Addr} {k ct : Nat} (c : C58 w g ub n h fn At k ct) (hb : w'.heap[g]? = w.heap[g]?) : C58 w' g ub n h fn At k ct :=
  ⟨(World.cell?_of_block hb).trans c.c0, (World.cell?_of_block hb).trans c.c1, (World.cell?_of_block hb).trans c.c2, (World.cell?_of_block hb).trans c.c3, (World.cell?_of_block hb).trans c.c4, fun o => (World.frozen?_of_block (a := ⟨g, o, none⟩) hb).trans (c.fz o)⟩
/-- The box of what was found. -/
structure OBx (w : World) (q : Nat) (Ao : Option Addr) (m co : Nat) : Prop where
  c0 : w.cell? ⟨q, 0, none⟩ = some (.slice Ao m co)
  fz : w.frozen? ⟨q, 0, none⟩ = false
theorem OBx.keep {w w' : World} {q : Nat} {Ao : Option Addr} {m co : Nat} (c : OBx w q Ao m co) (hb : w'.heap[q]? = w.heap[q]?) : OBx w' q Ao m co :=
  ⟨(World.cell?_of_block hb).trans c.c0, (World.frozen?_of_block (a := ⟨q, 0, none⟩) hb).trans c.fz⟩
/-- The state of the program's search: its cells are known by At and ct. -/
def S58at (w0 w : World) (g q ub n h : Nat) (fn : Value) (U : Nat → Bool) (At : Option Addr) (ct : Nat) (pre : List Int) (out : List (List Int)) : Prop :=
  ∃ (Ao : Option Addr) (co : Nat), Pst w0 w [g, q] ub n U At ct pre Ao co out ∧ C58 w g ub n h fn At pre.length ct ∧ OBx w q Ao out.length co ∧ g ≠ q
def S58 (w0 w : World) (g q ub n h : Nat) (fn : Value) (U : Nat → Bool) (pre : List Int) (out : List (List Int)) : Prop :=
  ∃ (At : Option Addr) (ct : Nat), S58at w0 w g q ub n h fn U At ct pre out
theorem S58at.after {w0 w w' : World} {g q ub n h : Nat} {fn : Value} {U : Nat → Bool} {At : Option Addr} {ct : Nat} {pre : List Int} {out : List (List Int)} (s : S58at w0 w g q ub n h fn U At ct pre out) (k : Ext w w') : S58at w0 w' g q ub n h fn U At ct pre out := by
  obtain ⟨Ao, co, hp, hc, hq, hn⟩ := s
  exact ⟨Ao, co, hp.after k, hc.keep (Below.block k g (hp.gl g (by simp)).2), hq.keep (Below.block k q (hp.gl q (by simp)).2), hn⟩
theorem S58.after {w0 w w' : World} {g q ub n h : Nat} {fn : Value} {U : Nat → Bool} {pre : List Int} {out : List (List Int)} (s : S58 w0 w g q ub n h fn U pre out) (k : Ext w w') : S58 w0 w' g q ub n h fn U pre out := by
  obtain ⟨At, ct, s⟩ := s
  exact ⟨At, ct, s.after k⟩
/-- What the function that is handed over (number K, the box q captured) is to do with a pattern that lies in new memory. -/
def CloOut (w0 w : World) (g q ub n h : Nat) (fn : Value) (U : Nat → Bool) (At : Option Addr) (ct : Nat) (pre : List Int) (r : List (List Int) × Bool) (e : Ending) (w' : World) : Prop :=
  e = .returned (.bool r.2) ∧ S58at w0 w' g q ub n h fn U At ct pre r.1 ∧ w'.heap[g]? = w.heap[g]?
def Clo (K : Nat) (n : Nat) (F : List (List Int) → List Int → List (List Int) × Bool) (Ok : Nat → List (List Int) → Prop) : Prop :=
  ∀ (w0 Wb w : World) (g q ub h : Nat) (fn : Value) (U : Nat → Bool) (At : Option Addr) (ct : Nat) (pre : List Int) (out : List (List Int)) (B : Option Addr) (d lo hi : Nat), S58at w0 Wb g q ub n h fn U At ct pre out → Ext Wb w → Row w lo hi 2 1 B pre.length d pre → Wb.heap.size ≤ lo → hi ≤ w.heap.size →
    pre.length = n → n ≤ 6 → (∀ y ∈ pre, 0 ≤ y ∧ y ≤ 15) → Ok 1 out →
    Calls Try.prog K #[.slice B pre.length d, .pointer (some ⟨q, 0, none⟩)] w (CloOut w0 w g q ub n h fn U At ct pre (F out pre))
/-- What a search gives, told by runF. -/
def Stp (w0 : World) (g q ub n h : Nat) (fn : Value) (U : Nat → Bool) (pre : List Int) (r : List (List Int) × Bool) (e : Ending) (w' : World) : Prop :=
  e = .returned (.bool r.2) ∧ S58 w0 w' g q ub n h fn U pre r.1
end Go.Proofs.Ytbldhfmhipdniaa
