/- Contracts of AppendPart, the program's and the reference's. No condition. -/
import Derived.Test.YtignmgeiijccoaaTrn
namespace Go.Proofs.Ytignmgeiijccoaa
set_option linter.unusedVariables false
set_option linter.unusedSimpArgs false
open Go.ChangeShapes Go.WideShapes Go.ChangeAt Go.RowKit Go.Joins Go.Deep

/-- The routine with a part more, and a code. -/
def apn (h : Int) (ps : List (List Int × Int)) (xs : List Int) (t : Int) : Int × List (List Int × Int) × Int :=
  if (vrtb h ps && vprt xs t h) = true then (if prp xs = prp (pt ps 0) then (if 8 ≤ ps.length then (0, [], 5) else (h, ps ++ [(xs, t)], 0)) else (0, [], 6)) else (0, [], 1)
theorem bdP_nil : bdP [] := fun i hi => absurd hi (by simp)
theorem bdP_push {ps : List (List Int × Int)} {xs : List Int} {t : Int} (hb : bdP ps) (hm : xs.length ≤ 1048576) (hx : ∀ y ∈ xs, -9223372036854775808 ≤ y ∧ y ≤ 9223372036854775807) (ht : -9223372036854775808 ≤ t ∧ t ≤ 9223372036854775807) : bdP (ps ++ [(xs, t)]) := fun i hi => by
  rw [← pt_push (q := (xs, t)) rfl (by simpa using hi), ← tm_push (q := (xs, t)) rfl (by simpa using hi)]
  by_cases e : i = ps.length
  · subst e; rw [upd_self, upd_self]; exact ⟨hm, hx, ht⟩
  · rw [upd_ne _ _ e, upd_ne _ _ e]
    simp at hi
    exact hb i (by omega)
theorem apn_bd {h : Int} {ps : List (List Int × Int)} {xs : List Int} {t : Int} {hh : Int} {ys : List (List Int × Int)} {r : Int} (hy : apn h ps xs t = (hh, ys, r)) (hb : bdP ps) (hn : ps.length ≤ 1048576) (hm : xs.length ≤ 1048576) (hx : ∀ y ∈ xs, -9223372036854775808 ≤ y ∧ y ≤ 9223372036854775807) (ht : -9223372036854775808 ≤ t ∧ t ≤ 9223372036854775807) : ys.length ≤ 1048576 ∧ bdP ys := by
  unfold apn at hy
  split at hy
  · split at hy
    · split at hy
      · simp only [Prod.mk.injEq] at hy; obtain ⟨_, rfl, _⟩ := hy; exact ⟨by simp, bdP_nil⟩
      · simp only [Prod.mk.injEq] at hy; obtain ⟨_, rfl, _⟩ := hy; exact ⟨by simp; omega, bdP_push hb hm hx ht⟩
    · simp only [Prod.mk.injEq] at hy; obtain ⟨_, rfl, _⟩ := hy; exact ⟨by simp, bdP_nil⟩
  · simp only [Prod.mk.injEq] at hy; obtain ⟨_, rfl, _⟩ := hy; exact ⟨by simp, bdP_nil⟩
theorem heap_alloc_old (w : World) (o o' : Obj) : ((w.alloc o).alloc o').heap[w.heap.size]? = some o := by
  show ((w.heap.push o).push o')[w.heap.size]? = some o
  simp [Array.getElem?_push]
/-- Cells of parts. -/
def PCells (w : World) (cs : List Value) (ps : List (List Int × Int)) : Prop := ∀ i, i < ps.length → ∃ (B : Option Addr) (m c : Nat), cs[i * 2]? = some (.slice B m c) ∧ cs[i * 2 + 1]? = some (.int .i64 (tm ps i)) ∧ Ints w B m (pt ps i)
theorem PCells.push {w : World} {cs : List Value} {ps : List (List Int × Int)} (h : PCells w cs ps) (hl : cs.length = ps.length * 2) {B : Option Addr} {m c : Nat} {xs : List Int} {t : Int} (hI : Ints w B m xs) : PCells w (cs ++ [.slice B m c, .int .i64 t]) (ps ++ [(xs, t)]) := fun i hi => by
  rw [← pt_push (q := (xs, t)) rfl (by simpa using hi), ← tm_push (q := (xs, t)) rfl (by simpa using hi)]
  by_cases e : i = ps.length
  · subst e
    rw [upd_self, upd_self]
    refine ⟨B, m, c, ?_, ?_, hI⟩
    · rw [List.getElem?_append_right (by omega), hl, Nat.sub_self]; rfl
    · rw [List.getElem?_append_right (by omega), hl, show ps.length * 2 + 1 - ps.length * 2 = 1 by omega]; rfl
  · rw [upd_ne _ _ e, upd_ne _ _ e]
    simp at hi
    rw [List.getElem?_append_left (by omega), List.getElem?_append_left (by omega)]
    exact h i (by omega)
theorem PCells.ext {w w' : World} {cs : List Value} {ps : List (List Int × Int)} (h : PCells w cs ps) (k : Ext w w') : PCells w' cs ps := fun i hi => by
  obtain ⟨B, m, c, e0, e1, e2⟩ := h i hi
  exact ⟨B, m, c, e0, e1, e2.ext k⟩
theorem RowG.partsOf {w : World} {lo hi : Nat} {A : Option Addr} {n c : Nat} {cs : List Value} {ps : List (List Int × Int)} (h : RowG w lo hi 42 2 A n c cs) (hc : PCells w cs ps) (hl : ps.length = n) (hn : n ≤ 1000) (hb : ∀ i, i < n → -9223372036854775808 ≤ tm ps i ∧ tm ps i ≤ 9223372036854775807) : Parts w A n ps := by
  refine ⟨hl, by omega, hb, fun h0 => ?_⟩
  obtain ⟨g, rfl, hg⟩ := h.form h0
  refine ⟨g, 0, rfl, hg, fun i hi => ?_⟩
  obtain ⟨B, m, d, e0, e1, e2⟩ := hc i (by omega)
  exact ⟨B, m, d, by rw [Nat.zero_add, (h.cellAt (p := i * 2) (by omega)).1]; exact e0, by rw [Nat.zero_add, (h.cellAt (p := i * 2 + 1) (by omega)).1]; exact e1, e2⟩
theorem cellsParts {W : World} {A : Option Addr} {m : Nat} {ps : List (List Int × Int)} (hr : Parts W A m ps) (hm : 1 ≤ m) : ∃ ad, A = some ad ∧ ∃ cs : List Value, cs.length = m * 2 ∧ (∀ j u, cs[j]? = some u → W.cell? (ad.add j) = some u) ∧ (∀ u ∈ cs, u.oneCell' = true) ∧ PCells W cs ps := by
  obtain ⟨b, off, rfl, _, hc⟩ := hr.at_ (by omega)
  have hex : ∀ i, i < m → ∃ q : Option Addr × Nat × Nat, W.cell? ⟨b, off + i * 2, none⟩ = some (.slice q.1 q.2.1 q.2.2) ∧ W.cell? ⟨b, off + i * 2 + 1, none⟩ = some (.int .i64 (tm ps i)) ∧ Ints W q.1 q.2.1 (pt ps i) := fun i hi => by
    obtain ⟨B, k, c, e0, e1, e2⟩ := hc i hi
    exact ⟨(B, k, c), e0, e1, e2⟩
  obtain ⟨q, hq⟩ := Go.Deep.choose_lt (α := Option Addr × Nat × Nat) hex
  refine ⟨_, rfl, (List.range (m * 2)).map (fun j => if j % 2 = 0 then .slice (q (j / 2)).1 (q (j / 2)).2.1 (q (j / 2)).2.2 else .int .i64 (tm ps (j / 2))), by simp, fun j u hu => ?_, fun u hu => ?_, fun i hi => ?_⟩
  · have hj := (List.getElem?_eq_some_iff.1 hu).1
    simp at hj
    rw [List.getElem?_map, List.getElem?_range hj] at hu
    simp only [Option.map_some, Option.some.injEq] at hu
    rw [addr_add]
    obtain ⟨h1, h2, _⟩ := hq (j / 2) (by omega)
    by_cases e : j % 2 = 0
    · rw [if_pos e] at hu
      rw [← hu, ← h1]
      congr 2
      omega
    · rw [if_neg e] at hu
      rw [← hu, ← h2]
      congr 2
      omega
  · simp only [List.mem_map, List.mem_range] at hu
    obtain ⟨j, _, rfl⟩ := hu
    split <;> rfl
  · rw [hr.len] at hi
    obtain ⟨_, _, h3⟩ := hq i hi
    refine ⟨(q i).1, (q i).2.1, (q i).2.2, ?_, ?_, h3⟩
    · rw [List.getElem?_map, List.getElem?_range (by omega)]
      simp
    · rw [List.getElem?_map, List.getElem?_range (by omega)]
      have e1 : (i * 2 + 1) % 2 = 1 := by omega
      have e2 : (i * 2 + 1) / 2 = i := by omega
      simp [e1, e2]
/-- 'append([]Part{}, parts...)' at a step of a region that draws. -/
theorem stepQ {W : World} {ops : Array Oper} {o : Oper} {a : Act} {K : Act → World → Prop} {Q : Exit → Act → World → Prop} {E : Prop} (hgd : o.guard = none) (s x : Operand)
    (ho : o.op = .call { callee := .builtin .append, args := #[s, x], argTypes := #[27, 27] }) {X : Addr} (hs : a.eval s = .slice (some X) 0 0)
    {w0 : World} {A : Option Addr} {m c : Nat} {ps : List (List Int × Int)} (hr : Parts w0 A m ps) (hk : Ext w0 W) (hx : a.eval x = .slice A m c) (hm : 1 ≤ m ∧ m ≤ 1000)
    (h : ∀ A' c' cs w', RowG w' W.heap.size w'.heap.size 42 2 A' m c' cs → PCells w0 cs ps → Ext W w' → K (a.put o.dst (.slice A' m c')) w') :
    if Region.wanted o (yielded ops a.tmps) = true then Oper.wp Try.prog o a W K Q else E := by
  obtain ⟨i, z, hi, hz, hs2, hb, hz3⟩ := elPart
  obtain ⟨b, off, e0, _⟩ := hr.at_ (by omega)
  obtain ⟨ad, e1, cs, hl, hc0, h1, hat⟩ := cellsParts hr hm.1
  have hc : ∀ j u, cs[j]? = some u → W.cell? (ad.add j) = some u := fun j u hu => by
    have h2 := hc0 j u hu
    rw [e0] at e1
    obtain rfl : ⟨b, off, none⟩ = ad := by simpa using e1
    rw [addr_add] at h2 ⊢
    exact hk.cell (cell_lt h2) h2
  subst e1
  refine step_append_grows hgd s x 27 ho 42 i _ 2 32 Try.underlying27 hi hz hs2 hb hz3 (by omega) (some X) 0 0 [] hs (fun h => by cases h) rfl (fun b _ j u hu => by simp at hu) ad m c cs hx hl hc h1 (by omega) (by unfold maxLen; omega) (by omega) ?_
  intro v' w' hown hg
  rw [Nat.zero_add, List.nil_append] at hown
  have hE : Ext W w' := (Ext.refl W).grown hg (fun k hk => by cases hk)
  rcases ownsRow_forms hown with ⟨rfl, h0⟩ | ⟨g, cap, rfl⟩
  · omega
  · exact h _ _ cs _ ⟨hown, fun a ha => (World.ownsRow.lt hown a.block (by rw [ha]; rfl)).2⟩ hat hE
theorem PRowF.beside {w w' : World} {lo hi : Nat} {A : Option Addr} {n c : Nat} {H : Nat → Option Addr × Nat} {X : Nat → List Int} {T : Nat → Int} (h : PRowF w lo hi A n c H X T) {row : Option Nat} (k : w.grownBy w' row) (hA : ∀ g, row = some g → A.map (·.block) ≠ some g) (hH : ∀ i, i < n → ∀ g, row = some g → (H i).1.map (·.block) ≠ some g) : PRowF w' lo hi A n c H X T := by
  obtain ⟨cs, hr', hc⟩ := h.row
  exact ⟨⟨cs, hr'.beside k hA, hc⟩, fun i hi => (h.rows i hi).beside k (hH i hi), h.apart, h.alone⟩
theorem app_keep {W w' : World} {A : Option Addr} {lo hi : Nat} (hr : ∀ g, A.map (·.block) = some g → lo ≤ g ∧ g < hi) (hg : W.grownBy w' (A.map (·.block))) {b : Nat} (hb : b < W.heap.size) (h : b < lo ∨ hi ≤ b) :
    (∀ o, w'.cell? ⟨b, o, none⟩ = W.cell? ⟨b, o, none⟩) ∧ ∀ o, w'.frozen? ⟨b, o, none⟩ = W.frozen? ⟨b, o, none⟩ := by
  have e : w'.heap[b]? = W.heap[b]? := hg.block b hb (fun e => by have := hr b e.symm; omega)
  refine ⟨fun o => World.cell?_of_block e, fun o => ?_⟩
  unfold World.frozen?
  rw [e]
theorem PRow.row_bd {w : World} {lo hi : Nat} {A : Option Addr} {n c : Nat} {ps : List (List Int × Int)} (h : PRow w lo hi A n c ps) : ∀ g, A.map (·.block) = some g → lo ≤ g ∧ g < hi := by
  obtain ⟨H, hF⟩ := h.rows
  obtain ⟨cs, hr, _⟩ := hF.row
  exact hr.row_bd
/-- A part is appended. -/
theorem PRow.pushH {W w' : World} {lo hi : Nat} {A : Option Addr} {n c : Nat} {ps : List (List Int × Int)} {H : Nat → Option Addr × Nat} {cs : List Value} (hl : ps.length = n) (hr : RowG W lo hi 42 2 A n c cs) (hc : ∀ i, i < n → cs[i * 2]? = some (.slice (H i).1 (pt ps i).length (H i).2) ∧ cs[i * 2 + 1]? = some (.int .i64 (tm ps i)))
    (h : PRowF W lo hi A n c H (pt ps) (tm ps)) (hhi : hi ≤ W.heap.size) {lo2 hi2 : Nat} {B : Option Addr} {m d : Nat} {xs : List Int} {t : Int} (R : Row W lo2 hi2 2 1 B m d xs) (hm : xs.length = m) (h1 : hi ≤ lo2) (h2 : hi2 ≤ W.heap.size) (h0 : lo ≤ lo2)
    {A' : Option Addr} {c' : Nat} (own : w'.ownsRow lo 42 2 (.slice A' (n + 1) c') (n + 1) (cs ++ [.slice B m d, .int .i64 t])) (hg : W.grownBy w' (A.map (·.block))) (hat : A'.map (·.block) = A.map (·.block) ∨ A'.map (·.block) = some W.heap.size) :
    PRowF w' lo w'.heap.size A' (n + 1) c' (upd H n (B, d)) (pt (ps ++ [(xs, t)])) (tm (ps ++ [(xs, t)])) := by
  have hz := hg.size
  have hcl := hr.len
  subst hm
  refine PRowF.congr (X := upd (pt ps) n xs) (T := upd (tm ps) n t) ?_ (fun i hi => pt_push (q := (xs, t)) hl hi) (fun i hi => tm_push (q := (xs, t)) hl hi)
  refine ⟨⟨_, ⟨own, fun a ha => (World.ownsRow.lt own a.block (by rw [ha]; rfl)).2⟩, fun i hi => ?_⟩, fun i hi => ?_, fun i k hi hk hne g' hg' e2 => ?_, fun i hi g' hg' e2 => ?_⟩
  · by_cases e : i = n
    · subst e
      rw [upd_self, upd_self, upd_self]
      refine ⟨?_, ?_⟩
      · rw [List.getElem?_append_right (by omega), hcl, Nat.sub_self]; rfl
      · rw [List.getElem?_append_right (by omega), hcl, show i * 2 + 1 - i * 2 = 1 by omega]; rfl
    · rw [upd_ne _ _ e, upd_ne _ _ e, upd_ne _ _ e, List.getElem?_append_left (by omega), List.getElem?_append_left (by omega)]
      exact hc i (by omega)
  · by_cases e : i = n
    · subst e
      rw [upd_self, upd_self]
      refine (R.beside hg (fun g hg' e => ?_)).wide h0 (by omega)
      have := R.row_bd g e
      have := hr.row_bd g hg'
      omega
    · rw [upd_ne _ _ e, upd_ne _ _ e]
      exact ((h.rows i (by omega)).beside hg (fun g hg' e2 => h.alone i (by omega) g e2 hg')).wide (Nat.le_refl _) (by omega)
  · by_cases e : i = n
    · subst e
      rw [upd_self] at hg'
      rw [upd_ne _ _ (fun e' => hne e'.symm)] at e2
      have := R.row_bd _ hg'
      have := (h.rows k (by omega)).row_bd _ e2
      omega
    · rw [upd_ne _ _ e] at hg'
      by_cases e' : k = n
      · subst e'
        rw [upd_self] at e2
        have := R.row_bd _ e2
        have := (h.rows i (by omega)).row_bd _ hg'
        omega
      · rw [upd_ne _ _ e'] at e2
        exact h.apart i k (by omega) (by omega) hne g' hg' e2
  · by_cases e : i = n
    · subst e
      rw [upd_self] at hg'
      have := R.row_bd _ hg'
      rcases hat with h3 | h3
      · rw [h3] at e2
        have := hr.row_bd _ e2
        omega
      · rw [h3] at e2
        simp at e2
        omega
    · rw [upd_ne _ _ e] at hg'
      rcases hat with h3 | h3
      · rw [h3] at e2
        exact h.alone i (by omega) g' hg' e2
      · rw [h3] at e2
        have := (h.rows i (by omega)).row_bd _ hg'
        simp at e2
        omega
/-- 'append(parts, part)' at a step of a region that draws. -/
theorem stepPX {W : World} {ops : Array Oper} {o : Oper} {a : Act} {K : Act → World → Prop} {Q : Exit → Act → World → Prop} {E : Prop} (hgd : o.guard = none) (s x : Operand)
    (ho : o.op = .call { callee := .builtin .append, args := #[s, x], argTypes := #[27, 27] }) {lo hi : Nat} {A : Option Addr} {n c : Nat} {ps : List (List Int × Int)} (hs : a.eval s = .slice A n c) (hown : PRow W lo hi A n c ps) (hn : n ≤ 1000)
    {b : Nat} (hx : a.eval x = .slice (some ⟨b, 0, none⟩) 1 1) {ar : Array Value} {t' : TypeId} {fr : Nat × Nat} (hB : W.heap[b]? = some (.cells ar t' fr)) {lo2 hi2 : Nat} {B : Option Addr} {m d : Nat} {xs : List Int} {t : Int} (hc : ar.toList = [.slice B m d, .int .i64 t]) (R : Row W lo2 hi2 2 1 B m d xs) (hm : xs.length = m)
    (h1 : hi ≤ lo2) (h2 : hi2 ≤ W.heap.size) (h0 : lo ≤ lo2) (h3 : lo2 ≤ hi2)
    (h : ∀ A' c' w', (∀ b' v, hi ≤ b' → b' < lo2 → PRow (w'.setCell ⟨b', 1, none⟩ v) lo w'.heap.size A' (n + 1) c' (ps ++ [(xs, t)])) → W.grownBy w' (A.map (·.block)) → K (a.put o.dst (.slice A' (n + 1) c')) w') :
    if Region.wanted o (yielded ops a.tmps) = true then Oper.wp Try.prog o a W K Q else E := by
  have hw : Region.wanted o (yielded ops a.tmps) = true := by simp [Region.wanted, hgd]
  rw [if_pos hw]
  obtain ⟨i, z, hi', hz0, hz1, hz2, hz3⟩ := elPart
  obtain ⟨H, hF⟩ := hown.rows
  obtain ⟨cs, hr, hcc⟩ := hF.row
  obtain ⟨v', w', hrun, k2, k3, _, k5⟩ := run_append_own_at (P := Try.prog) W lo 27 o.type 42 i z 2 32 Try.underlying27 hi' hz0 hz1 hz2 hz3 (by omega) (.slice A n c) n _ hr.own ⟨b, 0, none⟩ 1 1 [.slice B m d, .int .i64 t] rfl (newsG hB hc) (by intro u hu; simp at hu; rcases hu with rfl | rfl <;> rfl) (by unfold maxLen; omega) (by omega) (by omega)
  unfold Oper.wp execOp
  simp only [ho, resolve, invoke, builtin, Sem.run_bind, Sem.run_pure, Result.andThen_ok, List.map_toArray, List.map_cons, List.map_nil, hs, hx, hrun]
  obtain ⟨A', c', rfl⟩ : ∃ A' c', v' = .slice A' (n + 1) c' := by
    rcases ownsRow_forms k2 with ⟨rfl, e0⟩ | ⟨g, cap, rfl⟩
    · omega
    · exact ⟨_, _, rfl⟩
  have k3' : W.grownBy w' (A.map (·.block)) := by cases A <;> exact k3
  have hat : A'.map (·.block) = A.map (·.block) ∨ A'.map (·.block) = some W.heap.size := by cases A <;> cases A' <;> exact k5
  have hall := PRow.pushH hown.len hr hcc hF (by omega) R hm h1 h2 h0 k2 k3' hat
  refine h _ _ _ (fun b' v hb1 hb2 => ⟨by simp [hown.len], _, hall.beside (row := some b') ⟨rfl, rfl, rfl, by simp [World.setCell], fun i hi hne => Below.heap_setCell w' ⟨b', 1, none⟩ v i (by rintro rfl; exact hne rfl)⟩ (fun g hg => ?_) (fun i hi g hg => ?_)⟩) k3'
  · cases hg
    rcases hat with e | e <;> rw [e]
    · intro e2; have := hr.row_bd _ e2; omega
    · intro e2; simp at e2; omega
  · cases hg
    by_cases e : i = n
    · subst e; rw [upd_self]; intro e2; have := R.row_bd _ e2; omega
    · rw [upd_ne _ _ e]; intro e2; have := (hF.rows i (by omega)).row_bd _ e2; omega
/-- A routine and a code that a call has put into a box and a slot. -/
def RouBox (w wx : World) (hh : Int) (ys : List (List Int × Int)) (r : Int) (s6 s7 : Value) : Prop :=
  s7 = .int .i64 r ∧ ∃ (g : Nat) (A : Option Addr) (c : Nat), s6 = .pointer (some ⟨g, 0, none⟩) ∧ w.heap.size ≤ g ∧ g < wx.heap.size ∧ wx.cell? ⟨g, 0, none⟩ = some (.int .i64 hh) ∧ wx.cell? ⟨g, 1, none⟩ = some (.slice A ys.length c) ∧ PRow wx w.heap.size wx.heap.size A ys.length c ys ∧ Ext w wx
theorem row_box {w w1 : World} {lo hi g : Nat} {A : Option Addr} {n c : Nat} {ps : List (List Int × Int)} (h : PRow w1 lo hi A n c ps) {W : World} (h1 : w.heap.size ≤ lo) {v0 v1 : Value} (hE : Ext w1 W) (hh : hi ≤ W.heap.size) (hg : g < lo ∨ hi ≤ g) :
    PRow ((W.setCell ⟨g, 0, none⟩ v0).setCell ⟨g, 1, none⟩ v1) w.heap.size ((W.setCell ⟨g, 0, none⟩ v0).setCell ⟨g, 1, none⟩ v1).heap.size A n c ps :=
  (((h.ext hE).far (p := ⟨g, 0, none⟩) hg v0).far (p := ⟨g, 1, none⟩) hg v1).wide h1 (by simpa [World.setCell] using hh)
set_option maxHeartbeats 4000000 in
theorem specAppendPart_is (A : Option Addr) (n c : Nat) (ps : List (List Int × Int)) (h : Int) (B : Option Addr) (m d : Nat) (xs : List Int) (t : Int) (w : World) (hP : Parts w A n ps) (hJ : Ints w B m xs) {hh : Int} {ys : List (List Int × Int)} {r : Int} (hy : apn h ps xs t = (hh, ys, r)) :
    Calls Try.prog 19 #[.agg #[.int .i64 h, .slice A n c], .agg #[.slice B m d, .int .i64 t]] w (RetRou w hh ys r) := by
  have hlen := hP.len
  have hlx := hJ.len
  obtain ⟨v, hv⟩ : ∃ v, vrtb h ps = v := ⟨_, rfl⟩
  obtain ⟨u, hu⟩ : ∃ u, vprt xs t h = u := ⟨_, rfl⟩
  have HV : Hid (v = true ↔ vrt h ps) := by show _ ↔ _; rw [← hv]; exact vrtb_iff h ps
  have HU := Lib.hid hu
  unfold apn at hy
  rw [hv, hu] at hy
  cases v
  · simp only [Bool.false_and, Bool.false_eq_true, if_false, Prod.mk.injEq] at hy
    obtain ⟨rfl, rfl, rfl⟩ := hy
    clear hv hu
    go_enter Try.func19, Try.ntmps19
    go_wp2_with fail
    (with_reducible refine (l19Ok_is w.heap.size A n c ps h _ (by go_simp) (by go_simp) (hP.ext (by with_reducible (repeat (first | exact Ext.refl _ | apply Ext.drewN | apply Ext.drew | apply Ext.alloc | (refine Ext.set ?_ (by first | (simp; done) | (simp; omega) | omega) _) | (refine Ext.trans ?_ (by assumption)))))) false HV.out).mono ?_)
    rintro e w1 ⟨rfl, q, rfl⟩
    go_wp2
    exact bodyPost_ret (v := .tuple #[.agg #[.int .i64 0, .slice none 0 0], .int .i64 1]) (by simp [results, Try.results19, go_sem, *]) rfl (RetRou.of_nil rfl (by with_reducible (repeat (first | exact Ext.refl _ | apply Ext.drewN | apply Ext.drew | apply Ext.alloc | (refine Ext.set ?_ (by first | (simp; done) | (simp; omega) | omega) _) | (refine Ext.trans ?_ (by assumption))))))
  cases u
  · simp only [Bool.and_false, Bool.false_eq_true, if_false, Prod.mk.injEq] at hy
    obtain ⟨rfl, rfl, rfl⟩ := hy
    have HVT := Lib.hid (HV.out.1 rfl)
    clear hv hu HV
    go_enter Try.func19, Try.ntmps19
    go_wp2_with fail
    (with_reducible refine (l19Ok_is w.heap.size A n c ps h _ (by go_simp) (by go_simp) (hP.ext (by with_reducible (repeat (first | exact Ext.refl _ | apply Ext.drewN | apply Ext.drew | apply Ext.alloc | (refine Ext.set ?_ (by first | (simp; done) | (simp; omega) | omega) _) | (refine Ext.trans ?_ (by assumption)))))) true ⟨fun _ => HVT.out, fun _ => rfl⟩).mono ?_)
    rintro e w1 ⟨rfl, q, rfl⟩
    go_wp2_with fail
    (with_reducible refine (l19Part_is (w.heap.size + 1) 0 B m d xs t h _ (by go_simp) (by go_simp) (hJ.ext (by with_reducible (repeat (first | exact Ext.refl _ | apply Ext.drewN | apply Ext.drew | apply Ext.alloc | (refine Ext.set ?_ (by first | (simp; done) | (simp; omega) | omega) _) | (refine Ext.trans ?_ (by assumption)))))) false HU.out).mono ?_)
    rintro e w1 ⟨rfl, q2, rfl⟩
    go_wp2
    exact bodyPost_ret (v := .tuple #[.agg #[.int .i64 0, .slice none 0 0], .int .i64 1]) (by simp [results, Try.results19, go_sem, *]) rfl (RetRou.of_nil rfl (by with_reducible (repeat (first | exact Ext.refl _ | apply Ext.drewN | apply Ext.drew | apply Ext.alloc | (refine Ext.set ?_ (by first | (simp; done) | (simp; omega) | omega) _) | (refine Ext.trans ?_ (by assumption))))))
  have hl3 := vrt_len hv
  have hvp := vprt_pat hu
  have hvp0 : vpat (pt ps 0) = true := vprt_pat (((vrtb_iff h ps).1 hv).2.2 0 (by omega)).1
  have hlx12 := (thr_iff.1 (vpat_thr hvp)).2
  rw [hlen] at hl3
  rw [hlx] at hlx12
  obtain ⟨hn1, hn8, hlm⟩ := hl3
  obtain ⟨hm1, hm12⟩ := hlx12
  have HL := Lib.hid hlm
  have HVT := Lib.hid (HV.out.1 rfl)
  have HP1 := Lib.hid hvp
  have HP0 := Lib.hid hvp0
  clear hv hu HV hlm hvp hvp0
  simp only [Bool.and_true, if_true] at hy
  obtain ⟨b, off, hA, hb, hcell⟩ := hP.at_ (by omega)
  subst hA
  obtain ⟨B0, m0, d0, e0, _, I0⟩ := hcell 0 (by omega)
  rw [Nat.zero_mul, Nat.add_zero] at e0
  clear hcell
  have i0 : (0 : Int) < n := by omega
  have i0n : 0 < n := by omega
  have hb1 : b < w.heap.size + 1 := by omega
  have hb2 : b < w.heap.size + 1 + 1 := by omega
  obtain ⟨p, hp⟩ : ∃ p, prp xs = p := ⟨_, rfl⟩
  obtain ⟨p0, hp0⟩ : ∃ p, prp (pt ps 0) = p := ⟨_, rfl⟩
  have cp1 := fun W hW => l02Props_any B m d xs W hW HP1.out
  have cp0 := fun W hW => l02Props_any B0 m0 d0 (pt ps 0) W hW HP0.out
  rw [hp] at cp1 hy
  rw [hp0] at cp0 hy
  clear hp hp0
  have CP1 := Lib.hid cp1
  have CP0 := Lib.hid cp0
  clear cp1 cp0
  by_cases hpp : p = p0
  rotate_left
  · rw [if_neg hpp] at hy
    simp only [Prod.mk.injEq] at hy
    obtain ⟨rfl, rfl, rfl⟩ := hy
    have hne : (p != p0) = true := by simpa using hpp
    clear hpp
    go_enter Try.func19, Try.ntmps19
    go_wp2_with fail
    (with_reducible refine (l19Ok_is w.heap.size _ n c ps h _ (by go_simp) (by go_simp) (hP.ext (by with_reducible (repeat (first | exact Ext.refl _ | apply Ext.drewN | apply Ext.drew | apply Ext.alloc | (refine Ext.set ?_ (by first | (simp; done) | (simp; omega) | omega) _) | (refine Ext.trans ?_ (by assumption)))))) true ⟨fun _ => HVT.out, fun _ => rfl⟩).mono ?_)
    rintro e w1 ⟨rfl, q, rfl⟩
    go_wp2_with fail
    (with_reducible refine (l19Part_is (w.heap.size + 1) 0 B m d xs t h _ (by go_simp) (by go_simp) (hJ.ext (by with_reducible (repeat (first | exact Ext.refl _ | apply Ext.drewN | apply Ext.drew | apply Ext.alloc | (refine Ext.set ?_ (by first | (simp; done) | (simp; omega) | omega) _) | (refine Ext.trans ?_ (by assumption)))))) true HU.out).mono ?_)
    rintro e w1 ⟨rfl, q2, rfl⟩
    go_wp2
    go_quiet ((first | (go_at_call 40; first | with_reducible exact quiet_l (CP1.out _ (hJ.ext (by with_reducible (repeat (first | exact Ext.refl _ | apply Ext.drewN | apply Ext.drew | apply Ext.alloc | (refine Ext.set ?_ (by first | (simp; done) | (simp; omega) | omega) _) | (refine Ext.trans ?_ (by assumption))))))) | with_reducible exact quiet_la (CP1.out _ (hJ.ext (by with_reducible (repeat (first | exact Ext.refl _ | apply Ext.drewN | apply Ext.drew | apply Ext.alloc | (refine Ext.set ?_ (by first | (simp; done) | (simp; omega) | omega) _) | (refine Ext.trans ?_ (by assumption)))))))) | (go_at_call 40; first | with_reducible exact quiet_l (CP0.out _ (I0.ext (by with_reducible (repeat (first | exact Ext.refl _ | apply Ext.drewN | apply Ext.drew | apply Ext.alloc | (refine Ext.set ?_ (by first | (simp; done) | (simp; omega) | omega) _) | (refine Ext.trans ?_ (by assumption))))))) | with_reducible exact quiet_la (CP0.out _ (I0.ext (by with_reducible (repeat (first | exact Ext.refl _ | apply Ext.drewN | apply Ext.drew | apply Ext.alloc | (refine Ext.set ?_ (by first | (simp; done) | (simp; omega) | omega) _) | (refine Ext.trans ?_ (by assumption))))))))))
    go_wp2
    exact bodyPost_ret (v := .tuple #[.agg #[.int .i64 0, .slice none 0 0], .int .i64 6]) (by simp [results, Try.results19, go_sem, *]) rfl (RetRou.of_nil rfl (by with_reducible (repeat (first | exact Ext.refl _ | apply Ext.drewN | apply Ext.drew | apply Ext.alloc | (refine Ext.set ?_ (by first | (simp; done) | (simp; omega) | omega) _) | (refine Ext.trans ?_ (by assumption))))))
  subst hpp
  have hne : (p != p) = false := by simp
  rw [if_pos rfl] at hy
  by_cases h8 : 8 ≤ n
  · rw [if_pos (by omega)] at hy
    simp only [Prod.mk.injEq] at hy
    obtain ⟨rfl, rfl, rfl⟩ := hy
    have h8i : (8 : Int) ≤ n := by omega
    go_enter Try.func19, Try.ntmps19
    go_wp2_with fail
    (with_reducible refine (l19Ok_is w.heap.size _ n c ps h _ (by go_simp) (by go_simp) (hP.ext (by with_reducible (repeat (first | exact Ext.refl _ | apply Ext.drewN | apply Ext.drew | apply Ext.alloc | (refine Ext.set ?_ (by first | (simp; done) | (simp; omega) | omega) _) | (refine Ext.trans ?_ (by assumption)))))) true ⟨fun _ => HVT.out, fun _ => rfl⟩).mono ?_)
    rintro e w1 ⟨rfl, q, rfl⟩
    go_wp2_with fail
    (with_reducible refine (l19Part_is (w.heap.size + 1) 0 B m d xs t h _ (by go_simp) (by go_simp) (hJ.ext (by with_reducible (repeat (first | exact Ext.refl _ | apply Ext.drewN | apply Ext.drew | apply Ext.alloc | (refine Ext.set ?_ (by first | (simp; done) | (simp; omega) | omega) _) | (refine Ext.trans ?_ (by assumption)))))) true HU.out).mono ?_)
    rintro e w1 ⟨rfl, q2, rfl⟩
    go_wp2
    go_quiet ((first | (go_at_call 40; first | with_reducible exact quiet_l (CP1.out _ (hJ.ext (by with_reducible (repeat (first | exact Ext.refl _ | apply Ext.drewN | apply Ext.drew | apply Ext.alloc | (refine Ext.set ?_ (by first | (simp; done) | (simp; omega) | omega) _) | (refine Ext.trans ?_ (by assumption))))))) | with_reducible exact quiet_la (CP1.out _ (hJ.ext (by with_reducible (repeat (first | exact Ext.refl _ | apply Ext.drewN | apply Ext.drew | apply Ext.alloc | (refine Ext.set ?_ (by first | (simp; done) | (simp; omega) | omega) _) | (refine Ext.trans ?_ (by assumption)))))))) | (go_at_call 40; first | with_reducible exact quiet_l (CP0.out _ (I0.ext (by with_reducible (repeat (first | exact Ext.refl _ | apply Ext.drewN | apply Ext.drew | apply Ext.alloc | (refine Ext.set ?_ (by first | (simp; done) | (simp; omega) | omega) _) | (refine Ext.trans ?_ (by assumption))))))) | with_reducible exact quiet_la (CP0.out _ (I0.ext (by with_reducible (repeat (first | exact Ext.refl _ | apply Ext.drewN | apply Ext.drew | apply Ext.alloc | (refine Ext.set ?_ (by first | (simp; done) | (simp; omega) | omega) _) | (refine Ext.trans ?_ (by assumption))))))))))
    go_wp2
    exact bodyPost_ret (v := .tuple #[.agg #[.int .i64 0, .slice none 0 0], .int .i64 5]) (by simp [results, Try.results19, go_sem, *]) rfl (RetRou.of_nil rfl (by with_reducible (repeat (first | exact Ext.refl _ | apply Ext.drewN | apply Ext.drew | apply Ext.alloc | (refine Ext.set ?_ (by first | (simp; done) | (simp; omega) | omega) _) | (refine Ext.trans ?_ (by assumption))))))
  rw [if_neg (by omega)] at hy
  simp only [Prod.mk.injEq] at hy
  obtain ⟨rfl, rfl, rfl⟩ := hy
  have h8i : ¬ (8 : Int) ≤ n := by omega
  go_enter Try.func19, Try.ntmps19
  go_wp2_with fail
  (with_reducible refine (l19Ok_is w.heap.size _ n c ps h _ (by go_simp) (by go_simp) (hP.ext (by with_reducible (repeat (first | exact Ext.refl _ | apply Ext.drewN | apply Ext.drew | apply Ext.alloc | (refine Ext.set ?_ (by first | (simp; done) | (simp; omega) | omega) _) | (refine Ext.trans ?_ (by assumption)))))) true ⟨fun _ => HVT.out, fun _ => rfl⟩).mono ?_)
  rintro e w1 ⟨rfl, q, rfl⟩
  go_wp2_with fail
  (with_reducible refine (l19Part_is (w.heap.size + 1) 0 B m d xs t h _ (by go_simp) (by go_simp) (hJ.ext (by with_reducible (repeat (first | exact Ext.refl _ | apply Ext.drewN | apply Ext.drew | apply Ext.alloc | (refine Ext.set ?_ (by first | (simp; done) | (simp; omega) | omega) _) | (refine Ext.trans ?_ (by assumption)))))) true HU.out).mono ?_)
  rintro e w1 ⟨rfl, q2, rfl⟩
  go_wp2
  go_quiet ((first | (go_at_call 40; first | with_reducible exact quiet_l (CP1.out _ (hJ.ext (by with_reducible (repeat (first | exact Ext.refl _ | apply Ext.drewN | apply Ext.drew | apply Ext.alloc | (refine Ext.set ?_ (by first | (simp; done) | (simp; omega) | omega) _) | (refine Ext.trans ?_ (by assumption))))))) | with_reducible exact quiet_la (CP1.out _ (hJ.ext (by with_reducible (repeat (first | exact Ext.refl _ | apply Ext.drewN | apply Ext.drew | apply Ext.alloc | (refine Ext.set ?_ (by first | (simp; done) | (simp; omega) | omega) _) | (refine Ext.trans ?_ (by assumption)))))))) | (go_at_call 40; first | with_reducible exact quiet_l (CP0.out _ (I0.ext (by with_reducible (repeat (first | exact Ext.refl _ | apply Ext.drewN | apply Ext.drew | apply Ext.alloc | (refine Ext.set ?_ (by first | (simp; done) | (simp; omega) | omega) _) | (refine Ext.trans ?_ (by assumption))))))) | with_reducible exact quiet_la (CP0.out _ (I0.ext (by with_reducible (repeat (first | exact Ext.refl _ | apply Ext.drewN | apply Ext.drew | apply Ext.alloc | (refine Ext.set ?_ (by first | (simp; done) | (simp; omega) | omega) _) | (refine Ext.trans ?_ (by assumption))))))))))
  go_wp2_with fail
  (with_reducible refine (l19Copy_any w.heap.size _ n c ps h _ (by go_simp) (by go_simp) (hP.ext (by with_reducible (repeat (first | exact Ext.refl _ | apply Ext.drewN | apply Ext.drew | apply Ext.alloc | (refine Ext.set ?_ (by first | (simp; done) | (simp; omega) | omega) _) | (refine Ext.trans ?_ (by assumption)))))) (by omega) (fun i hi => by have := HL.out i hi; omega)).mono ?_)
  rintro e w3 ⟨A1, c1, rfl, R1, hx3⟩
  have hE3 : Ext w w3 := Ext.trans (by with_reducible (repeat (first | exact Ext.refl _ | apply Ext.drewN | apply Ext.drew | apply Ext.alloc | (refine Ext.set ?_ (by first | (simp; done) | (simp; omega) | omega) _) | (refine Ext.trans ?_ (by assumption))))) hx3
  have hz3 := hx3.size
  (try simp at hz3)
  have r1 : w.heap.size + 1 < w3.heap.size := by omega
  have r2 : w.heap.size + 1 + 1 < w3.heap.size := by omega
  have p0' : w3.cell? ⟨w.heap.size + 1, 0, none⟩ = some (.slice B m d) := hx3.cell (by first | (simp; done) | (simp; omega) | omega) (by go_simp)
  have p1' : w3.cell? ⟨w.heap.size + 1, 1, none⟩ = some (.int .i64 t) := hx3.cell (by first | (simp; done) | (simp; omega) | omega) (by go_simp)
  have s0 : w3.cell? ⟨w.heap.size + 1 + 1, 0, none⟩ = some (.int .i64 0) := hx3.cell (by first | (simp; done) | (simp; omega) | omega) (by go_simp)
  have s1 : w3.cell? ⟨w.heap.size + 1 + 1, 1, none⟩ = some (.slice none 0 0) := hx3.cell (by first | (simp; done) | (simp; omega) | omega) (by go_simp)
  have sf : ∀ o, w3.frozen? ⟨w.heap.size + 1 + 1, o, none⟩ = false := fun o => (hx3.cells.2 _ o (by first | (simp; done) | (simp; omega) | omega)).trans (by go_simp)
  have R1' : PRow w3 (w.heap.size + 1 + 1 + 1) w3.heap.size A1 n c1 ps := by simpa using R1
  have HR := Lib.hid R1'
  clear R1 R1'
  go_wp2
  go_region_law (first | (go_simp; go_at_call 34; (with_reducible refine (l19Own_any (w.heap.size + 1) 0 B m d xs t _ (by first | exact r1 | (simp; omega)) (by go_simp) (by go_simp) (hJ.ext (by with_reducible (repeat (first | exact Ext.refl _ | apply Ext.drewN | apply Ext.drew | apply Ext.alloc | (refine Ext.set ?_ (by first | (simp; done) | (simp; omega) | omega) _) | (refine Ext.trans ?_ (by assumption)))))) (by omega)).mono ?_); rintro e w4 ⟨A2, c2, rfl, R2, hx4⟩; have q2 : w3.heap.size + 1 ≤ w4.heap.size := Nat.le_trans (by first | (simp; done) | (simp; omega) | omega) hx4.size; have q3 : w3.heap.size < w4.heap.size := q2; have q4 : w.heap.size + 1 + 1 < w4.heap.size := Nat.lt_trans r2 q3; have k0 : w4.cell? ⟨w3.heap.size, 0, none⟩ = some (.int .i64 h) := hx4.cell (by first | (simp; done) | (simp; omega) | omega) (by go_simp); have k1 : w4.cell? ⟨w3.heap.size, 1, none⟩ = some (.slice A1 n c1) := hx4.cell (by first | (simp; done) | (simp; omega) | omega) (by go_simp); have kf : ∀ o, w4.frozen? ⟨w3.heap.size, o, none⟩ = false := fun o => (hx4.cells.2 _ o (by first | (simp; done) | (simp; omega) | omega)).trans (by go_simp); have hE4 : Ext w3 w4 := Ext.trans (by with_reducible (repeat (first | exact Ext.refl _ | apply Ext.drewN | apply Ext.drew | apply Ext.alloc | (refine Ext.set ?_ (by first | (simp; done) | (simp; omega) | omega) _) | (refine Ext.trans ?_ (by assumption))))) hx4; have HX4 := Lib.hid hE4) | (refine stepPX (by rfl) _ _ (by rfl) (by rfl) (HR.out.ext (Ext.alloc HX4.out _)) (by omega) (by rfl) (heap_alloc_new _ _) (by rfl) (Row.ext (lo := w3.heap.size + 1) (hi := w4.heap.size) (by simpa using R2) (Ext.alloc (Ext.refl _) _)) hlx (Nat.le_succ _) (by first | (simp; done) | (simp; omega) | omega) (by omega) q2 ?_; intro A3 c3 w5 P3 hg5; obtain ⟨z1, z2⟩ := app_keep HR.out.row_bd hg5 (b := w3.heap.size) (by first | (simp; done) | (simp; omega) | omega) (.inr (Nat.le_refl _)); have y0 : w5.cell? ⟨w3.heap.size, 0, none⟩ = some (.int .i64 h) := (z1 0).trans (by go_simp); have y1 : w5.cell? ⟨w3.heap.size, 1, none⟩ = some (.slice A1 n c1) := (z1 1).trans (by go_simp); have yf : ∀ o, w5.frozen? ⟨w3.heap.size, o, none⟩ = false := fun o => (z2 o).trans (by go_simp)))
  all_goals
    have hE4 : Ext w w4 := hE3.trans HX4.out
    have hE5 : Ext w w5 := (hE4.alloc _).grown hg5 (fun j hj => by have := HR.out.row_bd j hj; omega)
    obtain ⟨x1, x2⟩ := app_keep HR.out.row_bd hg5 (b := w.heap.size + 1 + 1) (by simp; omega) (.inl (by omega))
    have u0 : w5.cell? ⟨w.heap.size + 1 + 1, 0, none⟩ = some (.int .i64 0) := (x1 0).trans (by have := HX4.out.cell (by omega) s0; go_simp)
    have u1 : w5.cell? ⟨w.heap.size + 1 + 1, 1, none⟩ = some (.slice none 0 0) := (x1 1).trans (by have := HX4.out.cell (by omega) s1; go_simp)
    have uf : ∀ o, w5.frozen? ⟨w.heap.size + 1 + 1, o, none⟩ = false := fun o => (x2 o).trans (by have := (HX4.out.cells.2 _ o (by omega)).trans (sf o); go_simp)
    have hne1 : ¬ w3.heap.size = w.heap.size + 1 + 1 := by omega
    have hne2 : ¬ w.heap.size + 1 + 1 = w3.heap.size := by omega
    have hw5 : w3.heap.size < w5.heap.size := by have := hg5.size; simp at this; omega
    have P4 := (P3 w3.heap.size (.slice A3 (n + 1) c3) (Nat.le_refl _) (by omega))
    have HP4 := Lib.hid P4
    clear P3 P4 R2 x1 x2 z1 z2
    go_wp2
    refine bodyPost_ret (v := .tuple #[.agg #[.int .i64 h, .slice A3 (n + 1) c3], .int .i64 0]) (by simp [results, Try.results19, go_sem, *]) rfl ⟨_, _, _, rfl, ?_, ?_⟩
    · have := (HP4.out.far (p := ⟨w.heap.size + 1 + 1, 0, none⟩) (.inl (by show w.heap.size + 1 + 1 < w.heap.size + 1 + 1 + 1; omega)) (.int .i64 h)).far (p := ⟨w.heap.size + 1 + 1, 1, none⟩) (.inl (by show w.heap.size + 1 + 1 < w.heap.size + 1 + 1 + 1; omega)) (.slice A3 (n + 1) c3)
      exact this.wide (by omega) (by simp [World.setCell])
    · exact (by with_reducible (repeat (first | exact Ext.refl _ | apply Ext.drewN | apply Ext.drew | apply Ext.alloc | (refine Ext.set ?_ (by first | (simp; done) | (simp; omega) | omega) _) | (refine Ext.trans ?_ (by assumption)))))
set_option maxHeartbeats 4000000 in
theorem implAppendPart_is (A : Option Addr) (n c : Nat) (ps : List (List Int × Int)) (h : Int) (B : Option Addr) (m d : Nat) (xs : List Int) (t : Int) (w : World) (hP : Parts w A n ps) (hJ : Ints w B m xs) (ht : -9223372036854775808 ≤ t ∧ t ≤ 9223372036854775807) {hh : Int} {ys : List (List Int × Int)} {r : Int} (hy : apn h ps xs t = (hh, ys, r)) :
    Calls Try.prog 21 #[.agg #[.int .i64 h, .slice A n c], .agg #[.slice B m d, .int .i64 t]] w (RetRou w hh ys r) := by
  have hlen := hP.len
  have hlx := hJ.len
  obtain ⟨v, hv⟩ : ∃ v, vrtb h ps = v := ⟨_, rfl⟩
  obtain ⟨u, hu⟩ : ∃ u, vprt xs t h = u := ⟨_, rfl⟩
  have HV : Hid (v = true ↔ vrt h ps) := by show _ ↔ _; rw [← hv]; exact vrtb_iff h ps
  have HU := Lib.hid hu
  unfold apn at hy
  rw [hv, hu] at hy
  cases v
  · simp only [Bool.false_and, Bool.false_eq_true, if_false, Prod.mk.injEq] at hy
    obtain ⟨rfl, rfl, rfl⟩ := hy
    clear hv hu
    go_enter Try.func21, Try.ntmps21
    go_wp2_with fail
    (with_reducible refine (implValidRoutine_is _ n c ps h _ (hP.ext (by with_reducible (repeat (first | exact Ext.refl _ | apply Ext.drewN | apply Ext.drew | apply Ext.alloc | (refine Ext.set ?_ (by first | (simp; done) | (simp; omega) | omega) _) | (refine Ext.trans ?_ (by assumption)))))) false HV.out).mono ?_)
    rintro e w1 ⟨rfl, hx1⟩
    have hz1 := hx1.size
    (try simp at hz1)
    have hE1 : Ext w w1 := Ext.trans (by with_reducible (repeat (first | exact Ext.refl _ | apply Ext.drewN | apply Ext.drew | apply Ext.alloc | (refine Ext.set ?_ (by first | (simp; done) | (simp; omega) | omega) _) | (refine Ext.trans ?_ (by assumption))))) hx1
    have q10 : w.heap.size < w1.heap.size := by omega
    have q11 : w.heap.size + 1 < w1.heap.size := by omega
    have q12 : w.heap.size + 1 + 1 < w1.heap.size := by omega
    have k10 : ∀ o, w1.cell? ⟨w.heap.size, o, none⟩ = _ := fun o => hx1.cells.1 _ o (by first | (simp; done) | (simp; omega) | omega)
    have k11 : ∀ o, w1.cell? ⟨w.heap.size + 1, o, none⟩ = _ := fun o => hx1.cells.1 _ o (by first | (simp; done) | (simp; omega) | omega)
    have k12 : ∀ o, w1.cell? ⟨w.heap.size + 1 + 1, o, none⟩ = _ := fun o => hx1.cells.1 _ o (by first | (simp; done) | (simp; omega) | omega)
    have f10 : ∀ o, w1.frozen? ⟨w.heap.size, o, none⟩ = _ := fun o => hx1.cells.2 _ o (by first | (simp; done) | (simp; omega) | omega)
    have f12 : ∀ o, w1.frozen? ⟨w.heap.size + 1 + 1, o, none⟩ = _ := fun o => hx1.cells.2 _ o (by first | (simp; done) | (simp; omega) | omega)
    go_wp2
    exact bodyPost_ret (v := .tuple #[.agg #[.int .i64 0, .slice none 0 0], .int .i64 1]) (by simp [results, Try.results21, go_sem, *]) rfl (RetRou.of_nil rfl (by with_reducible (repeat (first | exact Ext.refl _ | apply Ext.drewN | apply Ext.drew | apply Ext.alloc | (refine Ext.set ?_ (by first | (simp; done) | (simp; omega) | omega) _) | (refine Ext.trans ?_ (by assumption))))))
  cases u
  · simp only [Bool.and_false, Bool.false_eq_true, if_false, Prod.mk.injEq] at hy
    obtain ⟨rfl, rfl, rfl⟩ := hy
    have HVT := Lib.hid (HV.out.1 rfl)
    clear hv hu HV
    go_enter Try.func21, Try.ntmps21
    go_wp2_with fail
    (with_reducible refine (implValidRoutine_is _ n c ps h _ (hP.ext (by with_reducible (repeat (first | exact Ext.refl _ | apply Ext.drewN | apply Ext.drew | apply Ext.alloc | (refine Ext.set ?_ (by first | (simp; done) | (simp; omega) | omega) _) | (refine Ext.trans ?_ (by assumption)))))) true ⟨fun _ => HVT.out, fun _ => rfl⟩).mono ?_)
    rintro e w1 ⟨rfl, hx1⟩
    have hz1 := hx1.size
    (try simp at hz1)
    have hE1 : Ext w w1 := Ext.trans (by with_reducible (repeat (first | exact Ext.refl _ | apply Ext.drewN | apply Ext.drew | apply Ext.alloc | (refine Ext.set ?_ (by first | (simp; done) | (simp; omega) | omega) _) | (refine Ext.trans ?_ (by assumption))))) hx1
    have q10 : w.heap.size < w1.heap.size := by omega
    have q11 : w.heap.size + 1 < w1.heap.size := by omega
    have q12 : w.heap.size + 1 + 1 < w1.heap.size := by omega
    have k10 : ∀ o, w1.cell? ⟨w.heap.size, o, none⟩ = _ := fun o => hx1.cells.1 _ o (by first | (simp; done) | (simp; omega) | omega)
    have k11 : ∀ o, w1.cell? ⟨w.heap.size + 1, o, none⟩ = _ := fun o => hx1.cells.1 _ o (by first | (simp; done) | (simp; omega) | omega)
    have k12 : ∀ o, w1.cell? ⟨w.heap.size + 1 + 1, o, none⟩ = _ := fun o => hx1.cells.1 _ o (by first | (simp; done) | (simp; omega) | omega)
    have f10 : ∀ o, w1.frozen? ⟨w.heap.size, o, none⟩ = _ := fun o => hx1.cells.2 _ o (by first | (simp; done) | (simp; omega) | omega)
    have f12 : ∀ o, w1.frozen? ⟨w.heap.size + 1 + 1, o, none⟩ = _ := fun o => hx1.cells.2 _ o (by first | (simp; done) | (simp; omega) | omega)
    go_wp2_with fail
    (with_reducible refine (validPart_is B m d xs t h _ (hJ.ext hE1) false HU.out).mono ?_)
    rintro e w2 ⟨rfl, hx2⟩
    have hz2 := hx2.size
    (try simp at hz2)
    have hE2 : Ext w w2 := Ext.trans hE1 hx2
    have q20 : w.heap.size < w2.heap.size := by omega
    have q21 : w.heap.size + 1 < w2.heap.size := by omega
    have q22 : w.heap.size + 1 + 1 < w2.heap.size := by omega
    have k20 : ∀ o, w2.cell? ⟨w.heap.size, o, none⟩ = _ := fun o => hx2.cells.1 _ o (by first | (simp; done) | (simp; omega) | omega)
    have k21 : ∀ o, w2.cell? ⟨w.heap.size + 1, o, none⟩ = _ := fun o => hx2.cells.1 _ o (by first | (simp; done) | (simp; omega) | omega)
    have k22 : ∀ o, w2.cell? ⟨w.heap.size + 1 + 1, o, none⟩ = _ := fun o => hx2.cells.1 _ o (by first | (simp; done) | (simp; omega) | omega)
    have f20 : ∀ o, w2.frozen? ⟨w.heap.size, o, none⟩ = _ := fun o => hx2.cells.2 _ o (by first | (simp; done) | (simp; omega) | omega)
    have f22 : ∀ o, w2.frozen? ⟨w.heap.size + 1 + 1, o, none⟩ = _ := fun o => hx2.cells.2 _ o (by first | (simp; done) | (simp; omega) | omega)
    go_wp2
    exact bodyPost_ret (v := .tuple #[.agg #[.int .i64 0, .slice none 0 0], .int .i64 1]) (by simp [results, Try.results21, go_sem, *]) rfl (RetRou.of_nil rfl (by with_reducible (repeat (first | exact Ext.refl _ | apply Ext.drewN | apply Ext.drew | apply Ext.alloc | (refine Ext.set ?_ (by first | (simp; done) | (simp; omega) | omega) _) | (refine Ext.trans ?_ (by assumption))))))
  have hl3 := vrt_len hv
  have hvp := vprt_pat hu
  have hvp0 : vpat (pt ps 0) = true := vprt_pat (((vrtb_iff h ps).1 hv).2.2 0 (by omega)).1
  have hlx12 := (thr_iff.1 (vpat_thr hvp)).2
  rw [hlen] at hl3
  rw [hlx] at hlx12
  obtain ⟨hn1, hn8, hlm⟩ := hl3
  obtain ⟨hm1, hm12⟩ := hlx12
  have HL := Lib.hid hlm
  have HVT := Lib.hid (HV.out.1 rfl)
  have HP1 := Lib.hid hvp
  have HP0 := Lib.hid hvp0
  clear hv hu HV hlm hvp hvp0
  simp only [Bool.and_true, if_true] at hy
  obtain ⟨b, off, hA, hb, hcell⟩ := hP.at_ (by omega)
  subst hA
  obtain ⟨B0, m0, d0, e0, _, I0⟩ := hcell 0 (by omega)
  rw [Nat.zero_mul, Nat.add_zero] at e0
  clear hcell
  have i0 : (0 : Int) < n := by omega
  have i0n : 0 < n := by omega
  have hb1 : b < w.heap.size + 1 := by omega
  have hb2 : b < w.heap.size + 1 + 1 := by omega
  obtain ⟨p, hp⟩ : ∃ p, prp xs = p := ⟨_, rfl⟩
  obtain ⟨p0, hp0⟩ : ∃ p, prp (pt ps 0) = p := ⟨_, rfl⟩
  have cp1 := fun W hW => propsOf_is B m d xs W hW HP1.out
  have cp0 := fun W hW => propsOf_is B0 m0 d0 (pt ps 0) W hW HP0.out
  rw [hp] at cp1 hy
  rw [hp0] at cp0 hy
  clear hp hp0
  have CP1 := Lib.hid cp1
  have CP0 := Lib.hid cp0
  clear cp1 cp0
  by_cases hpp : p = p0
  rotate_left
  · rw [if_neg hpp] at hy
    simp only [Prod.mk.injEq] at hy
    obtain ⟨rfl, rfl, rfl⟩ := hy
    have hne : (p != p0) = true := by simpa using hpp
    clear hpp
    go_enter Try.func21, Try.ntmps21
    go_wp2_with fail
    (with_reducible refine (implValidRoutine_is _ n c ps h _ (hP.ext (by with_reducible (repeat (first | exact Ext.refl _ | apply Ext.drewN | apply Ext.drew | apply Ext.alloc | (refine Ext.set ?_ (by first | (simp; done) | (simp; omega) | omega) _) | (refine Ext.trans ?_ (by assumption)))))) true ⟨fun _ => HVT.out, fun _ => rfl⟩).mono ?_)
    rintro e w1 ⟨rfl, hx1⟩
    have hz1 := hx1.size
    (try simp at hz1)
    have hE1 : Ext w w1 := Ext.trans (by with_reducible (repeat (first | exact Ext.refl _ | apply Ext.drewN | apply Ext.drew | apply Ext.alloc | (refine Ext.set ?_ (by first | (simp; done) | (simp; omega) | omega) _) | (refine Ext.trans ?_ (by assumption))))) hx1
    have q10 : w.heap.size < w1.heap.size := by omega
    have q11 : w.heap.size + 1 < w1.heap.size := by omega
    have q12 : w.heap.size + 1 + 1 < w1.heap.size := by omega
    have k10 : ∀ o, w1.cell? ⟨w.heap.size, o, none⟩ = _ := fun o => hx1.cells.1 _ o (by first | (simp; done) | (simp; omega) | omega)
    have k11 : ∀ o, w1.cell? ⟨w.heap.size + 1, o, none⟩ = _ := fun o => hx1.cells.1 _ o (by first | (simp; done) | (simp; omega) | omega)
    have k12 : ∀ o, w1.cell? ⟨w.heap.size + 1 + 1, o, none⟩ = _ := fun o => hx1.cells.1 _ o (by first | (simp; done) | (simp; omega) | omega)
    have f10 : ∀ o, w1.frozen? ⟨w.heap.size, o, none⟩ = _ := fun o => hx1.cells.2 _ o (by first | (simp; done) | (simp; omega) | omega)
    have f12 : ∀ o, w1.frozen? ⟨w.heap.size + 1 + 1, o, none⟩ = _ := fun o => hx1.cells.2 _ o (by first | (simp; done) | (simp; omega) | omega)
    go_wp2_with fail
    (with_reducible refine (validPart_is B m d xs t h _ (hJ.ext hE1) true HU.out).mono ?_)
    rintro e w2 ⟨rfl, hx2⟩
    have hz2 := hx2.size
    (try simp at hz2)
    have hE2 : Ext w w2 := Ext.trans hE1 hx2
    have q20 : w.heap.size < w2.heap.size := by omega
    have q21 : w.heap.size + 1 < w2.heap.size := by omega
    have q22 : w.heap.size + 1 + 1 < w2.heap.size := by omega
    have k20 : ∀ o, w2.cell? ⟨w.heap.size, o, none⟩ = _ := fun o => hx2.cells.1 _ o (by first | (simp; done) | (simp; omega) | omega)
    have k21 : ∀ o, w2.cell? ⟨w.heap.size + 1, o, none⟩ = _ := fun o => hx2.cells.1 _ o (by first | (simp; done) | (simp; omega) | omega)
    have k22 : ∀ o, w2.cell? ⟨w.heap.size + 1 + 1, o, none⟩ = _ := fun o => hx2.cells.1 _ o (by first | (simp; done) | (simp; omega) | omega)
    have f20 : ∀ o, w2.frozen? ⟨w.heap.size, o, none⟩ = _ := fun o => hx2.cells.2 _ o (by first | (simp; done) | (simp; omega) | omega)
    have f22 : ∀ o, w2.frozen? ⟨w.heap.size + 1 + 1, o, none⟩ = _ := fun o => hx2.cells.2 _ o (by first | (simp; done) | (simp; omega) | omega)
    have e02 : w2.cell? ⟨b, off, none⟩ = some (.slice B0 m0 d0) := hE2.cell hb e0
    have hb3 : b < w2.heap.size := Nat.lt_of_lt_of_le hb hE2.size
    go_wp2
    go_quiet ((first | (go_at_call 31; first | with_reducible exact quiet_l (CP1.out _ (hJ.ext (by with_reducible (repeat (first | exact Ext.refl _ | apply Ext.drewN | apply Ext.drew | apply Ext.alloc | (refine Ext.set ?_ (by first | (simp; done) | (simp; omega) | omega) _) | (refine Ext.trans ?_ (by assumption))))))) | with_reducible exact quiet_la (CP1.out _ (hJ.ext (by with_reducible (repeat (first | exact Ext.refl _ | apply Ext.drewN | apply Ext.drew | apply Ext.alloc | (refine Ext.set ?_ (by first | (simp; done) | (simp; omega) | omega) _) | (refine Ext.trans ?_ (by assumption)))))))) | (go_at_call 31; first | with_reducible exact quiet_l (CP0.out _ (I0.ext (by with_reducible (repeat (first | exact Ext.refl _ | apply Ext.drewN | apply Ext.drew | apply Ext.alloc | (refine Ext.set ?_ (by first | (simp; done) | (simp; omega) | omega) _) | (refine Ext.trans ?_ (by assumption))))))) | with_reducible exact quiet_la (CP0.out _ (I0.ext (by with_reducible (repeat (first | exact Ext.refl _ | apply Ext.drewN | apply Ext.drew | apply Ext.alloc | (refine Ext.set ?_ (by first | (simp; done) | (simp; omega) | omega) _) | (refine Ext.trans ?_ (by assumption))))))))))
    go_wp2
    exact bodyPost_ret (v := .tuple #[.agg #[.int .i64 0, .slice none 0 0], .int .i64 6]) (by simp [results, Try.results21, go_sem, *]) rfl (RetRou.of_nil rfl (by with_reducible (repeat (first | exact Ext.refl _ | apply Ext.drewN | apply Ext.drew | apply Ext.alloc | (refine Ext.set ?_ (by first | (simp; done) | (simp; omega) | omega) _) | (refine Ext.trans ?_ (by assumption))))))
  subst hpp
  have hne : (p != p) = false := by simp
  rw [if_pos rfl] at hy
  by_cases h8 : 8 ≤ n
  · rw [if_pos (by omega)] at hy
    simp only [Prod.mk.injEq] at hy
    obtain ⟨rfl, rfl, rfl⟩ := hy
    have h8i : (n : Int) = 8 := by omega
    go_enter Try.func21, Try.ntmps21
    go_wp2_with fail
    (with_reducible refine (implValidRoutine_is _ n c ps h _ (hP.ext (by with_reducible (repeat (first | exact Ext.refl _ | apply Ext.drewN | apply Ext.drew | apply Ext.alloc | (refine Ext.set ?_ (by first | (simp; done) | (simp; omega) | omega) _) | (refine Ext.trans ?_ (by assumption)))))) true ⟨fun _ => HVT.out, fun _ => rfl⟩).mono ?_)
    rintro e w1 ⟨rfl, hx1⟩
    have hz1 := hx1.size
    (try simp at hz1)
    have hE1 : Ext w w1 := Ext.trans (by with_reducible (repeat (first | exact Ext.refl _ | apply Ext.drewN | apply Ext.drew | apply Ext.alloc | (refine Ext.set ?_ (by first | (simp; done) | (simp; omega) | omega) _) | (refine Ext.trans ?_ (by assumption))))) hx1
    have q10 : w.heap.size < w1.heap.size := by omega
    have q11 : w.heap.size + 1 < w1.heap.size := by omega
    have q12 : w.heap.size + 1 + 1 < w1.heap.size := by omega
    have k10 : ∀ o, w1.cell? ⟨w.heap.size, o, none⟩ = _ := fun o => hx1.cells.1 _ o (by first | (simp; done) | (simp; omega) | omega)
    have k11 : ∀ o, w1.cell? ⟨w.heap.size + 1, o, none⟩ = _ := fun o => hx1.cells.1 _ o (by first | (simp; done) | (simp; omega) | omega)
    have k12 : ∀ o, w1.cell? ⟨w.heap.size + 1 + 1, o, none⟩ = _ := fun o => hx1.cells.1 _ o (by first | (simp; done) | (simp; omega) | omega)
    have f10 : ∀ o, w1.frozen? ⟨w.heap.size, o, none⟩ = _ := fun o => hx1.cells.2 _ o (by first | (simp; done) | (simp; omega) | omega)
    have f12 : ∀ o, w1.frozen? ⟨w.heap.size + 1 + 1, o, none⟩ = _ := fun o => hx1.cells.2 _ o (by first | (simp; done) | (simp; omega) | omega)
    go_wp2_with fail
    (with_reducible refine (validPart_is B m d xs t h _ (hJ.ext hE1) true HU.out).mono ?_)
    rintro e w2 ⟨rfl, hx2⟩
    have hz2 := hx2.size
    (try simp at hz2)
    have hE2 : Ext w w2 := Ext.trans hE1 hx2
    have q20 : w.heap.size < w2.heap.size := by omega
    have q21 : w.heap.size + 1 < w2.heap.size := by omega
    have q22 : w.heap.size + 1 + 1 < w2.heap.size := by omega
    have k20 : ∀ o, w2.cell? ⟨w.heap.size, o, none⟩ = _ := fun o => hx2.cells.1 _ o (by first | (simp; done) | (simp; omega) | omega)
    have k21 : ∀ o, w2.cell? ⟨w.heap.size + 1, o, none⟩ = _ := fun o => hx2.cells.1 _ o (by first | (simp; done) | (simp; omega) | omega)
    have k22 : ∀ o, w2.cell? ⟨w.heap.size + 1 + 1, o, none⟩ = _ := fun o => hx2.cells.1 _ o (by first | (simp; done) | (simp; omega) | omega)
    have f20 : ∀ o, w2.frozen? ⟨w.heap.size, o, none⟩ = _ := fun o => hx2.cells.2 _ o (by first | (simp; done) | (simp; omega) | omega)
    have f22 : ∀ o, w2.frozen? ⟨w.heap.size + 1 + 1, o, none⟩ = _ := fun o => hx2.cells.2 _ o (by first | (simp; done) | (simp; omega) | omega)
    have e02 : w2.cell? ⟨b, off, none⟩ = some (.slice B0 m0 d0) := hE2.cell hb e0
    have hb3 : b < w2.heap.size := Nat.lt_of_lt_of_le hb hE2.size
    go_wp2
    go_quiet ((first | (go_at_call 31; first | with_reducible exact quiet_l (CP1.out _ (hJ.ext (by with_reducible (repeat (first | exact Ext.refl _ | apply Ext.drewN | apply Ext.drew | apply Ext.alloc | (refine Ext.set ?_ (by first | (simp; done) | (simp; omega) | omega) _) | (refine Ext.trans ?_ (by assumption))))))) | with_reducible exact quiet_la (CP1.out _ (hJ.ext (by with_reducible (repeat (first | exact Ext.refl _ | apply Ext.drewN | apply Ext.drew | apply Ext.alloc | (refine Ext.set ?_ (by first | (simp; done) | (simp; omega) | omega) _) | (refine Ext.trans ?_ (by assumption)))))))) | (go_at_call 31; first | with_reducible exact quiet_l (CP0.out _ (I0.ext (by with_reducible (repeat (first | exact Ext.refl _ | apply Ext.drewN | apply Ext.drew | apply Ext.alloc | (refine Ext.set ?_ (by first | (simp; done) | (simp; omega) | omega) _) | (refine Ext.trans ?_ (by assumption))))))) | with_reducible exact quiet_la (CP0.out _ (I0.ext (by with_reducible (repeat (first | exact Ext.refl _ | apply Ext.drewN | apply Ext.drew | apply Ext.alloc | (refine Ext.set ?_ (by first | (simp; done) | (simp; omega) | omega) _) | (refine Ext.trans ?_ (by assumption))))))))))
    go_wp2
    exact bodyPost_ret (v := .tuple #[.agg #[.int .i64 0, .slice none 0 0], .int .i64 5]) (by simp [results, Try.results21, go_sem, *]) rfl (RetRou.of_nil rfl (by with_reducible (repeat (first | exact Ext.refl _ | apply Ext.drewN | apply Ext.drew | apply Ext.alloc | (refine Ext.set ?_ (by first | (simp; done) | (simp; omega) | omega) _) | (refine Ext.trans ?_ (by assumption))))))
  rw [if_neg (by omega)] at hy
  simp only [Prod.mk.injEq] at hy
  obtain ⟨rfl, rfl, rfl⟩ := hy
  have h8i : ¬ (n : Int) = 8 := by omega
  go_enter Try.func21, Try.ntmps21
  go_wp2_with fail
  (with_reducible refine (implValidRoutine_is _ n c ps h _ (hP.ext (by with_reducible (repeat (first | exact Ext.refl _ | apply Ext.drewN | apply Ext.drew | apply Ext.alloc | (refine Ext.set ?_ (by first | (simp; done) | (simp; omega) | omega) _) | (refine Ext.trans ?_ (by assumption)))))) true ⟨fun _ => HVT.out, fun _ => rfl⟩).mono ?_)
  rintro e w1 ⟨rfl, hx1⟩
  have hz1 := hx1.size
  (try simp at hz1)
  have hE1 : Ext w w1 := Ext.trans (by with_reducible (repeat (first | exact Ext.refl _ | apply Ext.drewN | apply Ext.drew | apply Ext.alloc | (refine Ext.set ?_ (by first | (simp; done) | (simp; omega) | omega) _) | (refine Ext.trans ?_ (by assumption))))) hx1
  have q10 : w.heap.size < w1.heap.size := by omega
  have q11 : w.heap.size + 1 < w1.heap.size := by omega
  have q12 : w.heap.size + 1 + 1 < w1.heap.size := by omega
  have k10 : ∀ o, w1.cell? ⟨w.heap.size, o, none⟩ = _ := fun o => hx1.cells.1 _ o (by first | (simp; done) | (simp; omega) | omega)
  have k11 : ∀ o, w1.cell? ⟨w.heap.size + 1, o, none⟩ = _ := fun o => hx1.cells.1 _ o (by first | (simp; done) | (simp; omega) | omega)
  have k12 : ∀ o, w1.cell? ⟨w.heap.size + 1 + 1, o, none⟩ = _ := fun o => hx1.cells.1 _ o (by first | (simp; done) | (simp; omega) | omega)
  have f10 : ∀ o, w1.frozen? ⟨w.heap.size, o, none⟩ = _ := fun o => hx1.cells.2 _ o (by first | (simp; done) | (simp; omega) | omega)
  have f12 : ∀ o, w1.frozen? ⟨w.heap.size + 1 + 1, o, none⟩ = _ := fun o => hx1.cells.2 _ o (by first | (simp; done) | (simp; omega) | omega)
  go_wp2_with fail
  (with_reducible refine (validPart_is B m d xs t h _ (hJ.ext hE1) true HU.out).mono ?_)
  rintro e w2 ⟨rfl, hx2⟩
  have hz2 := hx2.size
  (try simp at hz2)
  have hE2 : Ext w w2 := Ext.trans hE1 hx2
  have q20 : w.heap.size < w2.heap.size := by omega
  have q21 : w.heap.size + 1 < w2.heap.size := by omega
  have q22 : w.heap.size + 1 + 1 < w2.heap.size := by omega
  have k20 : ∀ o, w2.cell? ⟨w.heap.size, o, none⟩ = _ := fun o => hx2.cells.1 _ o (by first | (simp; done) | (simp; omega) | omega)
  have k21 : ∀ o, w2.cell? ⟨w.heap.size + 1, o, none⟩ = _ := fun o => hx2.cells.1 _ o (by first | (simp; done) | (simp; omega) | omega)
  have k22 : ∀ o, w2.cell? ⟨w.heap.size + 1 + 1, o, none⟩ = _ := fun o => hx2.cells.1 _ o (by first | (simp; done) | (simp; omega) | omega)
  have f20 : ∀ o, w2.frozen? ⟨w.heap.size, o, none⟩ = _ := fun o => hx2.cells.2 _ o (by first | (simp; done) | (simp; omega) | omega)
  have f22 : ∀ o, w2.frozen? ⟨w.heap.size + 1 + 1, o, none⟩ = _ := fun o => hx2.cells.2 _ o (by first | (simp; done) | (simp; omega) | omega)
  have e02 : w2.cell? ⟨b, off, none⟩ = some (.slice B0 m0 d0) := hE2.cell hb e0
  have hb3 : b < w2.heap.size := Nat.lt_of_lt_of_le hb hE2.size
  go_wp2
  go_quiet ((first | (go_at_call 31; first | with_reducible exact quiet_l (CP1.out _ (hJ.ext (by with_reducible (repeat (first | exact Ext.refl _ | apply Ext.drewN | apply Ext.drew | apply Ext.alloc | (refine Ext.set ?_ (by first | (simp; done) | (simp; omega) | omega) _) | (refine Ext.trans ?_ (by assumption))))))) | with_reducible exact quiet_la (CP1.out _ (hJ.ext (by with_reducible (repeat (first | exact Ext.refl _ | apply Ext.drewN | apply Ext.drew | apply Ext.alloc | (refine Ext.set ?_ (by first | (simp; done) | (simp; omega) | omega) _) | (refine Ext.trans ?_ (by assumption)))))))) | (go_at_call 31; first | with_reducible exact quiet_l (CP0.out _ (I0.ext (by with_reducible (repeat (first | exact Ext.refl _ | apply Ext.drewN | apply Ext.drew | apply Ext.alloc | (refine Ext.set ?_ (by first | (simp; done) | (simp; omega) | omega) _) | (refine Ext.trans ?_ (by assumption))))))) | with_reducible exact quiet_la (CP0.out _ (I0.ext (by with_reducible (repeat (first | exact Ext.refl _ | apply Ext.drewN | apply Ext.drew | apply Ext.alloc | (refine Ext.set ?_ (by first | (simp; done) | (simp; omega) | omega) _) | (refine Ext.trans ?_ (by assumption))))))))))
  have hbt : ∀ i, i < n → -9223372036854775808 ≤ tm ps i ∧ tm ps i ≤ 9223372036854775807 := hP.bds
  have HBT : Hid (∀ i, i < n + 1 → -9223372036854775808 ≤ tm (ps ++ [(xs, t)]) i ∧ tm (ps ++ [(xs, t)]) i ≤ 9223372036854775807) := fun i hi => by
    rw [← tm_push (q := (xs, t)) hlen hi]
    by_cases e : i = n
    · subst e; rw [upd_self]; exact ht
    · rw [upd_ne _ _ e]; exact hbt i (by omega)
  have HLT : Hid (∀ i, i < n + 1 → (pt (ps ++ [(xs, t)]) i).length ≤ 1000) := fun i hi => by
    rw [← pt_push (q := (xs, t)) hlen hi]
    by_cases e : i = n
    · subst e; rw [upd_self, hlx]; show m ≤ 1000; omega
    · rw [upd_ne _ _ e]; have := HL.out i (by omega); omega
  clear hbt
  have hn2 : 1 ≤ n ∧ n ≤ 1000 := by omega
  have hn3 : n ≤ 1000000 := by omega
  have h22 : 0 < 2 ∧ 32 ≤ 512 := by omega
  have HE2 := Lib.hid hE2
  have a20 : w2.cell? ⟨w.heap.size, 0, none⟩ = some (.int .i64 h) := (k20 0).trans ((k10 0).trans (by go_simp))
  have a21 : w2.cell? ⟨w.heap.size, 1, none⟩ = some (.slice (some ⟨b, off, none⟩) n c) := (k20 1).trans ((k10 1).trans (by go_simp))
  have a22 : w2.cell? ⟨w.heap.size + 1, 0, none⟩ = some (.slice B m d) := (k21 0).trans ((k11 0).trans (by go_simp))
  have a23 : w2.cell? ⟨w.heap.size + 1, 1, none⟩ = some (.int .i64 t) := (k21 1).trans ((k11 1).trans (by go_simp))
  have a24 : w2.cell? ⟨w.heap.size + 1 + 1, 0, none⟩ = some (.int .i64 0) := (k22 0).trans ((k12 0).trans (by go_simp))
  have a25 : w2.cell? ⟨w.heap.size + 1 + 1, 1, none⟩ = some (.slice none 0 0) := (k22 1).trans ((k12 1).trans (by go_simp))
  have a26 : ∀ o, w2.frozen? ⟨w.heap.size, o, none⟩ = false := fun o => (f20 o).trans ((f10 o).trans (by go_simp))
  have a27 : ∀ o, w2.frozen? ⟨w.heap.size + 1 + 1, o, none⟩ = false := fun o => (f22 o).trans ((f12 o).trans (by go_simp))
  clear k20 k21 k22 k10 k11 k12 f20 f22 f10 f12
  go_wp2
  obtain ⟨W, hW⟩ : ∃ W, w2.drewN nq = W := ⟨_, rfl⟩
  have A20 : (w2.drewN nq).cell? ⟨w.heap.size, 0, none⟩ = some (.int .i64 h) := a20
  have A21 : (w2.drewN nq).cell? ⟨w.heap.size, 1, none⟩ = some (.slice (some ⟨b, off, none⟩) n c) := a21
  have A22 : (w2.drewN nq).cell? ⟨w.heap.size + 1, 0, none⟩ = some (.slice B m d) := a22
  have A23 : (w2.drewN nq).cell? ⟨w.heap.size + 1, 1, none⟩ = some (.int .i64 t) := a23
  have A24 : (w2.drewN nq).cell? ⟨w.heap.size + 1 + 1, 0, none⟩ = some (.int .i64 0) := a24
  have A25 : (w2.drewN nq).cell? ⟨w.heap.size + 1 + 1, 1, none⟩ = some (.slice none 0 0) := a25
  have A26 : ∀ o, (w2.drewN nq).frozen? ⟨w.heap.size, o, none⟩ = false := a26
  have A27 : ∀ o, (w2.drewN nq).frozen? ⟨w.heap.size + 1 + 1, o, none⟩ = false := a27
  have Q20 : w.heap.size < (w2.drewN nq).heap.size := q20
  have Q21 : w.heap.size + 1 < (w2.drewN nq).heap.size := q21
  have Q22 : w.heap.size + 1 + 1 < (w2.drewN nq).heap.size := q22
  have HEW : Hid (Ext w (w2.drewN nq)) := hE2.trans ((Ext.refl _).drewN _)
  rw [hW] at A20 A21 A22 A23 A24 A25 A26 A27 Q20 Q21 Q22 HEW
  rw [hW]
  have hEW := HEW.out
  clear a20 a21 a22 a23 a24 a25 a26 a27 q20 q21 q22 hW e02 hb3 hE2 HE2 hx2 hz2 hE1 hx1 hz1
  go_region_law (first | (refine stepQ (by rfl) _ _ (by rfl) (by rfl) hP (by with_reducible (repeat (first | exact Ext.refl _ | apply Ext.drewN | apply Ext.drew | apply Ext.alloc | (refine Ext.set ?_ (by first | (simp; done) | (simp; omega) | omega) _) | (refine Ext.trans ?_ (by assumption))))) (by rfl) hn2 ?_; intro A3 c3 cs3 w3 R3 C3 hx3; have q30 : w.heap.size < w3.heap.size := Nat.lt_of_lt_of_le (by first | (simp; done) | (simp; omega) | omega) hx3.size; have q31 : w.heap.size + 1 < w3.heap.size := Nat.lt_of_lt_of_le (by first | (simp; done) | (simp; omega) | omega) hx3.size; have k310 : w3.cell? ⟨w.heap.size + 1, 0, none⟩ = some (.slice B m d) := hx3.cell (by first | (simp; done) | (simp; omega) | omega) (by go_simp); have k311 : w3.cell? ⟨w.heap.size + 1, 1, none⟩ = some (.int .i64 t) := hx3.cell (by first | (simp; done) | (simp; omega) | omega) (by go_simp)) | (refine stepG elPart h22 (by rfl) _ _ Try.underlying27 (by rfl) (by rfl) (w := W) (W := _) (v := .slice A3 n c3) (n := n) (cs := cs3) ⟨((R3.lower (by first | (simp; done) | (simp; omega) | omega)).ext (by with_reducible (repeat (first | exact Ext.refl _ | apply Ext.drewN | apply Ext.drew | apply Ext.alloc | (refine Ext.set ?_ (by first | (simp; done) | (simp; omega) | omega) _) | (refine Ext.trans ?_ (by assumption)))))).own, (by with_reducible (repeat (first | exact Ext.refl _ | apply Ext.drewN | apply Ext.drew | apply Ext.alloc | (refine Ext.set ?_ (by first | (simp; done) | (simp; omega) | omega) _) | (refine Ext.trans ?_ (by assumption)))))⟩ hn3 (by rfl) (by first | exact heap_alloc_new _ _ | exact (Below.block hx3 _ (by first | (simp; done) | (simp; omega) | omega)).trans (by first | exact heap_alloc_new _ _ | exact heap_alloc_old _ _ _ | exact heap_alloc_two _ _ _)) (by rfl) rfl (by intro u hu; simp at hu; rcases hu with rfl | rfl <;> rfl) ?_; intro v4 w4 O4; obtain ⟨A4, c4, rfl⟩ := O4.forms; have q40 : w.heap.size < w4.heap.size := Nat.lt_of_lt_of_le Q20 O4.ext.size; have q42 : w.heap.size + 1 + 1 < w4.heap.size := Nat.lt_of_lt_of_le Q22 O4.ext.size; have k40 : w4.cell? ⟨w.heap.size, 0, none⟩ = some (.int .i64 h) := O4.ext.cell Q20 (by go_simp); have k41 : w4.cell? ⟨w.heap.size, 1, none⟩ = some (.slice (some ⟨b, off, none⟩) n c) := O4.ext.cell Q20 (by go_simp); have k42 : w4.cell? ⟨w.heap.size + 1 + 1, 0, none⟩ = some (.int .i64 0) := O4.ext.cell Q22 (by go_simp); have k43 : w4.cell? ⟨w.heap.size + 1 + 1, 1, none⟩ = some (.slice none 0 0) := O4.ext.cell Q22 (by go_simp); have f40 : ∀ o, w4.frozen? ⟨w.heap.size, o, none⟩ = false := fun o => (O4.ext.cells.2 _ o Q20).trans (by go_simp); have f42 : ∀ o, w4.frozen? ⟨w.heap.size + 1 + 1, o, none⟩ = false := fun o => (O4.ext.cells.2 _ o Q22).trans (by go_simp)))
  all_goals
    have hE4 : Ext w w4 := HEW.out.trans O4.ext
    have hE5 : Ext w (w4.setCell ⟨w.heap.size, 1, none⟩ (.slice A4 (n + 1) c4)) := hE4.set (Nat.le_refl _) _
    have hPP : Parts (w4.setCell ⟨w.heap.size, 1, none⟩ (.slice A4 (n + 1) c4)) A4 (n + 1) (ps ++ [(xs, t)]) := (O4.row.keep (p := ⟨w.heap.size, 1, none⟩) (.inl Q20) _).partsOf ((C3.push (by have := R3.len; omega) (c := d) hJ).ext hE5) (by simp [hlen]) (by omega) HBT.out
    have HPP := Lib.hid hPP
    have HE5 := Lib.hid hE5
    clear hPP hE5 O4 R3 C3
    go_wp2_with fail
    (with_reducible refine (copiedR_any A4 (n + 1) c4 (ps ++ [(xs, t)]) h _ (HPP.out.ext (by with_reducible (repeat (first | exact Ext.refl _ | apply Ext.drewN | apply Ext.drew | apply Ext.alloc | (refine Ext.set ?_ (by first | (simp; done) | (simp; omega) | omega) _) | (refine Ext.trans ?_ (by assumption)))))) (by omega) HLT.out).mono ?_)
    rintro e w6 ⟨A6, c6, rfl, R6, hx6⟩
    have hE6 : Ext w w6 := HE5.out.trans (Ext.trans (by with_reducible (repeat (first | exact Ext.refl _ | apply Ext.drewN | apply Ext.drew | apply Ext.alloc | (refine Ext.set ?_ (by first | (simp; done) | (simp; omega) | omega) _) | (refine Ext.trans ?_ (by assumption))))) hx6)
    have hs6 := hx6.size
    (try simp [World.setCell] at hs6)
    have q62 : w.heap.size + 1 + 1 < w6.heap.size := by omega
    have k60 : w6.cell? ⟨w.heap.size + 1 + 1, 0, none⟩ = some (.int .i64 0) := hx6.cell (by first | (simp [World.setCell]; done) | (simp [World.setCell]; omega) | omega) (by go_simp)
    have k61 : w6.cell? ⟨w.heap.size + 1 + 1, 1, none⟩ = some (.slice none 0 0) := hx6.cell (by first | (simp [World.setCell]; done) | (simp [World.setCell]; omega) | omega) (by go_simp)
    have f6 : ∀ o, w6.frozen? ⟨w.heap.size + 1 + 1, o, none⟩ = false := fun o => (hx6.cells.2 _ o (by first | (simp [World.setCell]; done) | (simp [World.setCell]; omega) | omega)).trans (by go_simp)
    have hR7 : PRow w6 (w.heap.size + 1 + 1 + 1) w6.heap.size A6 (n + 1) c6 (ps ++ [(xs, t)]) := R6.wide (by (try simp [World.setCell]); (try omega)) (Nat.le_refl _)
    have HR7 := Lib.hid hR7
    clear R6 hR7
    go_wp2
    refine bodyPost_ret (v := .tuple #[.agg #[.int .i64 h, .slice A6 (n + 1) c6], .int .i64 0]) (by simp [results, Try.results21, go_sem, *]) rfl ⟨_, _, _, rfl, ?_, ?_⟩
    · have := (HR7.out.far (p := ⟨w.heap.size + 1 + 1, 0, none⟩) (.inl (by show w.heap.size + 1 + 1 < w.heap.size + 1 + 1 + 1; omega)) (.int .i64 h)).far (p := ⟨w.heap.size + 1 + 1, 1, none⟩) (.inl (by show w.heap.size + 1 + 1 < w.heap.size + 1 + 1 + 1; omega)) (.slice A6 (n + 1) c6)
      exact this.wide (by omega) (by simp [World.setCell])
    · exact (by with_reducible (repeat (first | exact Ext.refl _ | apply Ext.drewN | apply Ext.drew | apply Ext.alloc | (refine Ext.set ?_ (by first | (simp; done) | (simp; omega) | omega) _) | (refine Ext.trans ?_ (by assumption)))))
end Go.Proofs.Ytignmgeiijccoaa
