/- The reference's search for patterns: (*l12S).walk. No condition but the stated bounds. -/
import Derived.Test.YtbldhfmhipdniaaSfo
import Derived.Test.YtbldhfmhipdniaaLate
namespace Go.Proofs.Ytbldhfmhipdniaa
set_option linter.unusedVariables false
set_option linter.unusedSimpArgs false
open Go.ChangeShapes Go.WideShapes Go.ChangeAt Go.RowKit Go.Joins Go.Deep

theorem spart_pre {n h d : Nat} {U : Nat → Bool} {pre : List Int} {l : Int} (k : Nat) : ∀ m, ∃ rest, spart n h d U pre l (k + m) = spart n h d U pre l k ++ rest
  | 0 => ⟨[], by simp⟩
  | m + 1 => by
    obtain ⟨rest, e⟩ := spart_pre (n := n) (h := h) (d := d) (U := U) (pre := pre) (l := l) k m
    exact ⟨rest ++ sarm n h d U pre l (k + m), by rw [← Nat.add_assoc, spart_succ, e, List.append_assoc]⟩
theorem full_end {A B C : List (List Int)} (h : 3000 < (A ++ B).length) : (A ++ B).take 3000 = (A ++ (B ++ C)).take 3000 ∧ 3000 < (A ++ (B ++ C)).length := by
  rw [← List.append_assoc]
  refine ⟨(List.take_append_of_le_length (by omega)).symm, ?_⟩
  rw [List.length_append]
  omega
/-- 'append(throws, t)' in a plain region. -/
theorem appTh {w0 Wb W : World} {ops : Array Oper} {rest : List Oper} {o : Oper} {a : Act} {Q : Exit → Act → World → Prop} (hgd : o.guard = none) (s x : Operand)
    (ho : o.op = .call { callee := .builtin .append, args := #[s, x], argTypes := #[30, 30] }) {g ub n : Nat} {U : Nat → Bool} {At : Option Addr} {ct : Nat} {pre : List Int} {Ao : Option Addr} {co : Nat} {out : List (List Int)} (hs : a.eval s = .slice At pre.length ct) (h : Sst w0 Wb g ub n U At ct pre Ao co out) (hx : Ext Wb W) (hn : pre.length ≤ 1000) {B : Nat} {t : Int}
    (hxe : a.eval x = .slice (some ⟨B, 0, none⟩) 1 1) {cs : Array Value} {t' : TypeId} {fr : Nat × Nat} (hB : W.heap[B]? = some (.cells cs t' fr)) (hc : cs.toList = [.int .i64 t])
    (k : ∀ A' c' w', Sst w0 w' g ub n U A' c' (pre ++ [t]) Ao co out → W.grownBy w' (At.map (·.block)) → wpList Try.prog ops Q rest (a.put o.dst (.slice A' (pre.length + 1) c')) w') :
    wpList Try.prog ops Q (o :: rest) a W := by
  obtain ⟨i, z, hi, hz0, hz1, hz2, hz3⟩ := elInt
  have h2 := h.after hx
  refine wpList_append_lies W hgd s x 30 ho w0.heap.size 2 i z 1 8 Try.underlying30 hi hz0 hz1 hz2 hz3 (by omega) _ pre.length _ hs h2.thr.own ⟨B, 0, none⟩ 1 1 ([t].map (Value.int .i64)) hxe (by simp) (news_ints (ys := [t]) hB hc) (oneCell_ints [t]) (by omega) (by unfold maxLen; omega) (by omega) h2.ext.size W.heap.size rfl ?_
  intro g' cap w' ho' hg hat _
  have hg' : W.grownBy w' (At.map (·.block)) := by cases At <;> exact hg
  refine k _ _ _ (h2.push ⟨by simpa using ho', fun a ha => by cases ha; exact (World.ownsRow.lt ho' g' rfl).2⟩ hg' (fun b e => ?_)) hg'
  simp at e
  subst e
  rcases hat with h1 | h1
  · left
    cases At with
    | none => simp [Value.ownBlock] at h1
    | some a => simpa [Value.ownBlock] using h1
  · right; omega
/-- The cells of the reference's search. -/
structure C12 (w : World) (g ub n h : Nat) (l : Int) (At : Option Addr) (k ct : Nat) (Ao : Option Addr) (m co : Nat) (full : Bool) : Prop where
  c0 : w.cell? ⟨g, 0, none⟩ = some (.int .i64 n)
  c1 : w.cell? ⟨g, 1, none⟩ = some (.int .i64 h)
  c2 : w.cell? ⟨g, 2, none⟩ = some (.int .i64 l)
  c3 : w.cell? ⟨g, 3, none⟩ = some (.slice (some ⟨ub, 0, none⟩) n n)
  c4 : w.cell? ⟨g, 4, none⟩ = some (.slice At k ct)
  c5 : w.cell? ⟨g, 5, none⟩ = some (.slice Ao m co)
  c6 : w.cell? ⟨g, 6, none⟩ = some (.bool full)
  fz : ∀ o, w.frozen? ⟨g, o, none⟩ = false
theorem C12.keep {w w' : World} {g ub n h : Nat} {l : Int} {At : Option Addr} {k ct : Nat} {Ao : Option Addr} {m co : Nat} {full : Bool} (c : C12 w g ub n h l At k ct Ao m co full) (hb : w'.heap[g]? = w.heap[g]?) : C12 w' g ub n h l At k ct Ao m co full :=
  ⟨(World.cell?_of_block hb).trans c.c0, (World.cell?_of_block hb).trans c.c1, (World.cell?_of_block hb).trans c.c2, (World.cell?_of_block hb).trans c.c3, (World.cell?_of_block hb).trans c.c4, (World.cell?_of_block hb).trans c.c5, (World.cell?_of_block hb).trans c.c6, fun o => (World.frozen?_of_block (a := ⟨g, o, none⟩) hb).trans (c.fz o)⟩
/-- The state of the reference's search. -/
def L12 (w0 w : World) (g ub n h : Nat) (U : Nat → Bool) (pre : List Int) (l : Int) (out : List (List Int)) (full : Bool) : Prop :=
  ∃ (At : Option Addr) (ct : Nat) (Ao : Option Addr) (co : Nat), Sst w0 w g ub n U At ct pre Ao co out ∧ C12 w g ub n h l At pre.length ct Ao out.length co full
end Go.Proofs.Ytbldhfmhipdniaa
