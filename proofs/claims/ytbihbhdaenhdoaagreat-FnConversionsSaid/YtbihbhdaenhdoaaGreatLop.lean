/- A row of numbers is appended to rows of a call's own. Plain lemmas. -/
import Derived.Test.YtbihbhdaenhdoaaGreatMul
namespace Go.Proofs.YtbihbhdaenhdoaaGreat
set_option linter.unusedVariables false
set_option linter.unusedSimpArgs false
open Go.ChangeShapes Go.WideShapes Go.ChangeAt Go.RowKit Go.Joins Go.Deep

theorem infoRow : (Tryz.prog.info? 24).map (fun i => (i.zero, i.size, i.bytes)) = some (some (.slice none 0 0), 1, 24) := by kernel_rfl
theorem elRow2 : ElG Tryz.prog 24 1 24 := elG infoRow rfl
theorem ll_push2 {L : List (List Int)} {q : List Int} {i : Nat} (hi : i < L.length + 1) : upd (ll L) L.length q i = ll (L ++ [q]) i := by
  by_cases e : i = L.length
  · subst e; rw [upd_self]; simp [ll]
  · rw [upd_ne _ _ e]; unfold ll; rw [List.getElem?_append_left (by omega)]
/-- The row of rows has grown. -/
theorem LRowF.push {lo g : Nat} {Wb W w' : World} {Ao : Option Addr} {co c' : Nat} {out : List (List Int)} {H : Nat → Option Addr × Nat} (hF : LRowF Wb lo Wb.heap.size Ao out.length co H (ll out)) (hx : Ext Wb W)
    {cs : List Value} (hr : RowG Wb lo Wb.heap.size 24 1 Ao out.length co cs) (hc : ∀ i, i < out.length → cs[i]? = some (.slice (H i).1 (ll out i).length (H i).2))
    {lo2 hi2 : Nat} {B : Option Addr} {m d : Nat} {xs : List Int} (R : Row W lo2 hi2 2 1 B m d xs) (hm : xs.length = m) (h1 : Wb.heap.size ≤ lo2) (h2 : hi2 ≤ W.heap.size) (hlo : lo ≤ Wb.heap.size)
    (own : w'.ownsRow lo 24 1 (.slice (some ⟨g, 0, none⟩) (out.length + 1) c') (out.length + 1) (cs ++ [.slice B m d])) (hg : W.grownBy w' (Ao.map (·.block))) (hat : Ao.map (·.block) = some g ∨ g = W.heap.size) :
    LRow w' lo w'.heap.size (some ⟨g, 0, none⟩) (out.length + 1) c' (out ++ [xs]) := by
  have hz := hg.size
  have hz1 := hx.size
  have hcl := hr.len
  subst hm
  have hb0 : ∀ b, Ao.map (·.block) = some b → lo ≤ b ∧ b < Wb.heap.size := fun b e => hr.row_bd b e
  refine ⟨by simp, upd H out.length (B, d), ?_⟩
  refine LRowF.congr (X := upd (ll out) out.length xs) ?_ (fun i hi => ll_push2 hi)
  refine ⟨⟨_, ⟨own, fun a ha => (World.ownsRow.lt own a.block (by rw [ha]; rfl)).2⟩, fun i hi => ?_⟩, fun i hi => ?_, fun i k hi hk hne g' hg' e2 => ?_, fun i hi g' hg' e2 => ?_⟩
  · by_cases e : i = out.length
    · subst e
      rw [upd_self, upd_self, List.getElem?_append_right (by omega), hcl, show out.length - out.length * 1 = 0 by omega]
      rfl
    · rw [upd_ne _ _ e, upd_ne _ _ e, List.getElem?_append_left (by omega)]
      exact hc i (by omega)
  · by_cases e : i = out.length
    · subst e
      rw [upd_self, upd_self]
      refine (R.beside hg (fun g hg' e => ?_)).wide (by omega) (by omega)
      have := R.row_bd g e
      have := hb0 g hg'
      omega
    · rw [upd_ne _ _ e, upd_ne _ _ e]
      exact (((hF.rows i (by omega)).ext hx).beside hg (fun g hg' e2 => hF.alone i (by omega) g e2 hg')).wide (Nat.le_refl _) (by omega)
  · by_cases e : i = out.length
    · subst e
      rw [upd_self] at hg'
      rw [upd_ne _ _ (fun e' => hne e'.symm)] at e2
      have := R.row_bd _ hg'
      have := (hF.rows k (by omega)).row_bd _ e2
      omega
    · rw [upd_ne _ _ e] at hg'
      by_cases e' : k = out.length
      · subst e'
        rw [upd_self] at e2
        have := R.row_bd _ e2
        have := (hF.rows i (by omega)).row_bd _ hg'
        omega
      · rw [upd_ne _ _ e'] at e2
        exact hF.apart i k (by omega) (by omega) hne g' hg' e2
  · simp only [Option.map_some, Option.some.injEq] at e2
    subst e2
    by_cases e : i = out.length
    · subst e
      rw [upd_self] at hg'
      have := R.row_bd _ hg'
      rcases hat with h3 | h3
      · have := hb0 _ h3
        omega
      · omega
    · rw [upd_ne _ _ e] at hg'
      rcases hat with h3 | h3
      · exact hF.alone i (by omega) _ hg' h3
      · have := (hF.rows i (by omega)).row_bd _ hg'
        omega
theorem newsG2 {W : World} {ys : List Value} {B : Nat} {fr : Nat × Nat} {ar : Array Value} {t' : TypeId} (hB : W.heap[B]? = some (.cells ar t' fr)) (hc : ar.toList = ys) : ∀ j u, ys[j]? = some u → W.cell? ((⟨B, 0, none⟩ : Addr).add j) = some u := by
  rw [← hc]
  exact World.news_of_block hB
section
variable {w0 Wb W : World} {ops : Array Oper} {o : Oper} {a : Act} {Q : Exit → Act → World → Prop} {Ao : Option Addr} {co n lo : Nat} {out : List (List Int)}
/-- 'append(out, p)' in a region that keeps its order. -/
theorem appLL {rest : List Oper} (hgd : o.guard = none) (s x : Operand)
    (ho : o.op = .call { callee := .builtin .append, args := #[s, x], argTypes := #[25, 25] }) (hs : a.eval s = .slice Ao n co) (h : LRow Wb lo Wb.heap.size Ao n co out) (hE : Ext w0 Wb) (hlo : w0.heap.size ≤ lo ∧ lo ≤ Wb.heap.size) (hx : Ext Wb W) (hn : n ≤ 5000)
    {b : Nat} (hxe : a.eval x = .slice (some ⟨b, 0, none⟩) 1 1) {ar : Array Value} {t' : TypeId} {fr : Nat × Nat} (hB : W.heap[b]? = some (.cells ar t' fr)) {lo2 hi2 : Nat} {B : Option Addr} {m d : Nat} {xs : List Int} (hc : ar.toList = [.slice B m d]) (R : Row W lo2 hi2 2 1 B m d xs) (hm : xs.length = m)
    (h1 : Wb.heap.size ≤ lo2) (h2 : hi2 ≤ W.heap.size)
    (k : ∀ A' c' w', LRow w' lo w'.heap.size A' (n + 1) c' (out ++ [xs]) → Ext w0 w' → W.heap.size ≤ w'.heap.size → (∀ b o, b < lo → w'.cell? ⟨b, o, none⟩ = W.cell? ⟨b, o, none⟩ ∧ w'.frozen? ⟨b, o, none⟩ = W.frozen? ⟨b, o, none⟩) → wpList Tryz.prog ops Q rest (a.put o.dst (.slice A' (n + 1) c')) w') :
    wpList Tryz.prog ops Q (o :: rest) a W := by
  obtain ⟨i, z, hi', hz0, hz1, hz2, hz3⟩ := elRow2
  obtain ⟨H, hF⟩ := h.rows
  obtain rfl := h.len
  obtain ⟨cs, hr, hcc⟩ := hF.row
  have hz := hx.size
  refine wpList_append_lies W hgd s x 25 ho lo 24 i z 1 24 Tryz.underlying25 hi' hz0 hz1 hz2 hz3 (by omega) (.slice Ao out.length co) out.length _ hs (hr.ext hx).own ⟨b, 0, none⟩ 1 1 [.slice B m d] hxe rfl (newsG2 hB hc) (by intro u hu; simp at hu; subst hu; rfl) (by omega) (by unfold maxLen; omega) (by omega) (by omega) W.heap.size rfl ?_
  intro g cap w' ho' hg hat _
  have hg' : W.grownBy w' (Ao.map (·.block)) := by cases Ao <;> exact hg
  refine k _ _ _ (hF.push hx hr hcc R hm h1 h2 hlo.2 ho' hg' ?_) ((hE.trans hx).grown hg' (fun b e => Nat.le_trans hlo.1 (hr.row_bd b e).1)) hg'.size (fun b o hb => ?_)
  · rcases hat with h3 | h3
    · refine .inl ?_
      cases Ao <;> exact h3
    · exact .inr h3
  · have hne : some b ≠ Ao.map (·.block) := fun e => by
      have := (hr.row_bd b e.symm).1
      omega
    have hb2 := hg'.block b (by omega) hne
    exact ⟨World.cell?_of_block hb2, by unfold World.frozen?; rw [hb2]⟩
/-- 'append(out, p)' at a step of a region that draws its order. -/
theorem stepLL2 {K : Act → World → Prop} {E : Prop} (hgd : o.guard = none) (s x : Operand)
    (ho : o.op = .call { callee := .builtin .append, args := #[s, x], argTypes := #[25, 25] }) (hs : a.eval s = .slice Ao n co) (h : LRow Wb lo Wb.heap.size Ao n co out) (hE : Ext w0 Wb) (hlo : w0.heap.size ≤ lo ∧ lo ≤ Wb.heap.size) (hx : Ext Wb W) (hn : n ≤ 5000)
    {b : Nat} (hxe : a.eval x = .slice (some ⟨b, 0, none⟩) 1 1) {ar : Array Value} {t' : TypeId} {fr : Nat × Nat} (hB : W.heap[b]? = some (.cells ar t' fr)) {lo2 hi2 : Nat} {B : Option Addr} {m d : Nat} {xs : List Int} (hc : ar.toList = [.slice B m d]) (R : Row W lo2 hi2 2 1 B m d xs) (hm : xs.length = m)
    (h1 : Wb.heap.size ≤ lo2) (h2 : hi2 ≤ W.heap.size)
    (k : ∀ A' c' w', LRow w' lo w'.heap.size A' (n + 1) c' (out ++ [xs]) → Ext w0 w' → W.heap.size ≤ w'.heap.size → (∀ b o, b < lo → w'.cell? ⟨b, o, none⟩ = W.cell? ⟨b, o, none⟩ ∧ w'.frozen? ⟨b, o, none⟩ = W.frozen? ⟨b, o, none⟩) → K (a.put o.dst (.slice A' (n + 1) c')) w') :
    if Region.wanted o (yielded ops a.tmps) = true then Oper.wp Tryz.prog o a W K Q else E := by
  obtain ⟨i, z, hi', hz0, hz1, hz2, hz3⟩ := elRow2
  obtain ⟨H, hF⟩ := h.rows
  obtain rfl := h.len
  obtain ⟨cs, hr, hcc⟩ := hF.row
  have hz := hx.size
  refine step_append_lies W hgd s x 25 ho lo 24 i z 1 24 Tryz.underlying25 hi' hz0 hz1 hz2 hz3 (by omega) (.slice Ao out.length co) out.length _ hs (hr.ext hx).own ⟨b, 0, none⟩ 1 1 [.slice B m d] hxe rfl (newsG2 hB hc) (by intro u hu; simp at hu; subst hu; rfl) (by omega) (by unfold maxLen; omega) (by omega) (by omega) W.heap.size rfl ?_
  intro g cap w' ho' hg hat _
  have hg' : W.grownBy w' (Ao.map (·.block)) := by cases Ao <;> exact hg
  refine k _ _ _ (hF.push hx hr hcc R hm h1 h2 hlo.2 ho' hg' ?_) ((hE.trans hx).grown hg' (fun b e => Nat.le_trans hlo.1 (hr.row_bd b e).1)) hg'.size (fun b o hb => ?_)
  · rcases hat with h3 | h3
    · refine .inl ?_
      cases Ao <;> exact h3
    · exact .inr h3
  · have hne : some b ≠ Ao.map (·.block) := fun e => by
      have := (hr.row_bd b e.symm).1
      omega
    have hb2 := hg'.block b (by omega) hne
    exact ⟨World.cell?_of_block hb2, by unfold World.frozen?; rw [hb2]⟩
end
theorem heap_two2 (w : World) (o o' : Obj) : ((w.alloc o).alloc o').heap[w.heap.size + 1]? = some o' := by
  have := heap_alloc_new (w.alloc o) o'
  simpa using this
/-- A number in a block of its own. -/
theorem row_one (W : World) (x : Int) (o : Obj) : Row ((W.alloc (.cells #[.int .i64 x] 2)).alloc o) W.heap.size (W.heap.size + 1) 2 1 (some ⟨W.heap.size, 0, none⟩) 1 1 [x] := by
  have hb : ((W.alloc (.cells #[.int .i64 x] 2)).alloc o).heap[W.heap.size]? = some (.cells #[.int .i64 x] 2) := (Below.block ((Ext.refl _).alloc o) W.heap.size (by simp)).trans (heap_alloc_new W _)
  exact ⟨⟨rfl, .inr ⟨W.heap.size, 1, #[.int .i64 x], rfl, Nat.le_refl _, hb, Nat.le_refl _, by unfold maxLen; omega, rfl, rfl⟩⟩, fun a ha => by cases ha; simp⟩
end Go.Proofs.YtbihbhdaenhdoaaGreat
