/- A pattern is found: a row is appended to the rows that were found. No condition but the stated bounds. -/
import Derived.Test.YtbldhfmhipdniaaSst
import Derived.Test.YtbldhfmhipdniaaLow
import Derived.Deep.RegionLawGrows
namespace Go.Proofs.Ytbldhfmhipdniaa
set_option linter.unusedVariables false
set_option linter.unusedSimpArgs false
open Go.ChangeShapes Go.WideShapes Go.ChangeAt Go.RowKit Go.Joins Go.Deep

theorem infoRow : (Try.prog.info? 30).map (fun i => (i.zero, i.size, i.bytes)) = some (some (.slice none 0 0), 1, 24) := by kernel_rfl
theorem elRow : ElG Try.prog 30 1 24 := elG infoRow rfl
theorem ll_push {L : List (List Int)} {q : List Int} {i : Nat} (hi : i < L.length + 1) : upd (ll L) L.length q i = ll (L ++ [q]) i := by
  by_cases e : i = L.length
  · subst e; rw [upd_self]; simp [ll]
  · rw [upd_ne _ _ e]; unfold ll; rw [List.getElem?_append_left (by omega)]
theorem Sst.found {w0 Wb W w' : World} {g ub n : Nat} {U : Nat → Bool} {At : Option Addr} {ct : Nat} {pre : List Int} {Ao : Option Addr} {co : Nat} {out : List (List Int)} (h : Sst w0 Wb g ub n U At ct pre Ao co out) (hx : Ext Wb W) {H : Nat → Option Addr × Nat}
    (hF : LRowF Wb w0.heap.size Wb.heap.size Ao out.length co H (ll out)) (q1 : ∀ i, i < out.length → ∀ b, (H i).1.map (·.block) = some b → b ≠ g ∧ b ≠ ub ∧ At.map (·.block) ≠ some b) (q2 : ∀ b, Ao.map (·.block) = some b → b ≠ g ∧ b ≠ ub ∧ At.map (·.block) ≠ some b)
    {cs : List Value} (hr : RowG Wb w0.heap.size Wb.heap.size 30 1 Ao out.length co cs) (hc : ∀ i, i < out.length → cs[i]? = some (.slice (H i).1 (ll out i).length (H i).2))
    {lo2 hi2 : Nat} {B : Option Addr} {m d : Nat} {xs : List Int} (R : Row W lo2 hi2 2 1 B m d xs) (hm : xs.length = m) (h1 : Wb.heap.size ≤ lo2) (h2 : hi2 ≤ W.heap.size)
    {A' : Option Addr} {c' : Nat} (own : w'.ownsRow w0.heap.size 30 1 (.slice A' (out.length + 1) c') (out.length + 1) (cs ++ [.slice B m d])) (hg : W.grownBy w' (Ao.map (·.block))) (hat : A'.map (·.block) = Ao.map (·.block) ∨ A'.map (·.block) = some W.heap.size) :
    Sst w0 w' g ub n U At ct pre A' c' (out ++ [xs]) := by
  have hz := hg.size
  have hz1 := hx.size
  have hz0 := h.ext.size
  have hcl := hr.len
  have hgl := h.gl
  have hub := h.used.row_bd ub rfl
  subst hm
  have hb0 : ∀ b, Ao.map (·.block) = some b → w0.heap.size ≤ b ∧ b < Wb.heap.size := fun b e => hr.row_bd b e
  refine ⟨(h.ext.trans hx).grown hg (fun b e => (hb0 b e).1), ⟨hgl.1, by omega⟩, ((h.used.ext hx).beside hg (fun b e e2 => (q2 b e).2.1 (by simpa using e2.symm))).wide (Nat.le_refl _) (by omega), h.ne, ((h.thr.ext hx).beside hg (fun b e e2 => (q2 b e).2.2 e2)).wide (Nat.le_refl _) (by omega), h.thn, upd H out.length (B, d), ?_, fun i hi b hb => ?_, fun b hb => ?_⟩
  · rw [List.length_append, List.length_singleton]
    refine LRowF.congr (X := upd (ll out) out.length xs) ?_ (fun i hi => ll_push hi)
    refine ⟨⟨_, ⟨own, fun a ha => (World.ownsRow.lt own a.block (by rw [ha]; rfl)).2⟩, fun i hi => ?_⟩, fun i hi => ?_, fun i k hi hk hne g' hg' e2 => ?_, fun i hi g' hg' e2 => ?_⟩
    · by_cases e : i = out.length
      · subst e
        rw [upd_self, upd_self, List.getElem?_append_right (by omega), hcl, show out.length - out.length * 1 = 0 by omega]
        rfl
      · rw [upd_ne _ _ e, upd_ne _ _ e, List.getElem?_append_left (by omega)]
        exact hc i (by omega)
    · by_cases e : i = out.length
      · subst e
        rw [upd_self, upd_self]
        refine (R.beside hg (fun g hg' e => ?_)).wide (by omega) (by omega)
        have := R.row_bd g e
        have := hb0 g hg'
        omega
      · rw [upd_ne _ _ e, upd_ne _ _ e]
        exact (((hF.rows i (by omega)).ext hx).beside hg (fun g hg' e2 => hF.alone i (by omega) g e2 hg')).wide (Nat.le_refl _) (by omega)
    · by_cases e : i = out.length
      · subst e
        rw [upd_self] at hg'
        rw [upd_ne _ _ (fun e' => hne e'.symm)] at e2
        have := R.row_bd _ hg'
        have := (hF.rows k (by omega)).row_bd _ e2
        omega
      · rw [upd_ne _ _ e] at hg'
        by_cases e' : k = out.length
        · subst e'
          rw [upd_self] at e2
          have := R.row_bd _ e2
          have := (hF.rows i (by omega)).row_bd _ hg'
          omega
        · rw [upd_ne _ _ e'] at e2
          exact hF.apart i k (by omega) (by omega) hne g' hg' e2
    · by_cases e : i = out.length
      · subst e
        rw [upd_self] at hg'
        have := R.row_bd _ hg'
        rcases hat with h3 | h3
        · rw [h3] at e2
          have := hb0 _ e2
          omega
        · rw [h3] at e2
          simp at e2
          omega
      · rw [upd_ne _ _ e] at hg'
        rcases hat with h3 | h3
        · rw [h3] at e2
          exact hF.alone i (by omega) g' hg' e2
        · rw [h3] at e2
          have := (hF.rows i (by omega)).row_bd _ hg'
          simp at e2
          omega
  · rw [List.length_append, List.length_singleton] at hi
    by_cases e : i = out.length
    · subst e
      rw [upd_self] at hb
      have := R.row_bd _ hb
      exact ⟨by omega, by omega, fun e2 => by have := h.thr.row_bd _ e2; omega⟩
    · rw [upd_ne _ _ e] at hb
      exact q1 i (by omega) b hb
  · rcases hat with h3 | h3
    · exact q2 b (h3 ▸ hb)
    · rw [h3] at hb
      simp at hb
      exact ⟨by omega, by omega, fun e2 => by have := h.thr.row_bd _ e2; omega⟩
/-- 'append(out, p)' at a step of a region that draws. -/
theorem stepLL {w0 Wb W : World} {ops : Array Oper} {o : Oper} {a : Act} {K : Act → World → Prop} {Q : Exit → Act → World → Prop} {E : Prop} (hgd : o.guard = none) (s x : Operand)
    (ho : o.op = .call { callee := .builtin .append, args := #[s, x], argTypes := #[25, 25] }) {g ub n : Nat} {U : Nat → Bool} {At : Option Addr} {ct : Nat} {pre : List Int} {Ao : Option Addr} {co : Nat} {out : List (List Int)} (hs : a.eval s = .slice Ao out.length co) (h : Sst w0 Wb g ub n U At ct pre Ao co out) (hx : Ext Wb W) (hn : out.length ≤ 5000)
    {b : Nat} (hxe : a.eval x = .slice (some ⟨b, 0, none⟩) 1 1) {ar : Array Value} {t' : TypeId} {fr : Nat × Nat} (hB : W.heap[b]? = some (.cells ar t' fr)) {lo2 hi2 : Nat} {B : Option Addr} {m d : Nat} {xs : List Int} (hc : ar.toList = [.slice B m d]) (R : Row W lo2 hi2 2 1 B m d xs) (hm : xs.length = m)
    (h1 : Wb.heap.size ≤ lo2) (h2 : hi2 ≤ W.heap.size)
    (k : ∀ A' c' w', Sst w0 w' g ub n U At ct pre A' c' (out ++ [xs]) → W.grownBy w' (Ao.map (·.block)) → K (a.put o.dst (.slice A' (out.length + 1) c')) w') :
    if Region.wanted o (yielded ops a.tmps) = true then Oper.wp Try.prog o a W K Q else E := by
  have hw : Region.wanted o (yielded ops a.tmps) = true := by simp [Region.wanted, hgd]
  rw [if_pos hw]
  obtain ⟨i, z, hi', hz0, hz1, hz2, hz3⟩ := elRow
  obtain ⟨H, hF, q1, q2⟩ := h.outs
  obtain ⟨cs, hr, hcc⟩ := hF.row
  have hlo : w0.heap.size ≤ W.heap.size := Nat.le_trans h.ext.size hx.size
  obtain ⟨v', w', hrun, k2, k3, _, k5⟩ := run_append_own_at (P := Try.prog) W w0.heap.size 25 o.type 30 i z 1 24 Try.underlying25 hi' hz0 hz1 hz2 hz3 (by omega) (.slice Ao out.length co) out.length _ (hr.ext hx).own ⟨b, 0, none⟩ 1 1 [.slice B m d] rfl (newsG hB hc) (by intro u hu; simp at hu; subst hu; rfl) (by unfold maxLen; omega) (by omega) (by omega)
  unfold Oper.wp execOp
  simp only [ho, resolve, invoke, builtin, Sem.run_bind, Sem.run_pure, Result.andThen_ok, List.map_toArray, List.map_cons, List.map_nil, hs, hxe, hrun]
  obtain ⟨A', c', rfl⟩ : ∃ A' c', v' = .slice A' (out.length + 1) c' := by
    rcases ownsRow_forms k2 with ⟨rfl, e0⟩ | ⟨g, cap, rfl⟩
    · omega
    · exact ⟨_, _, rfl⟩
  have k3' : W.grownBy w' (Ao.map (·.block)) := by cases Ao <;> exact k3
  refine k _ _ _ (h.found hx hF q1 q2 hr hcc R hm h1 h2 k2 k3' ?_) k3'
  cases Ao <;> cases A' <;> exact k5
end Go.Proofs.Ytbldhfmhipdniaa
