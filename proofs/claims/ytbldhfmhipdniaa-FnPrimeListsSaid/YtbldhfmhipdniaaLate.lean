/- A region that draws its order, whose last operations (stores to cells that it loads) wait for all others: the others are walked under a condition on the world, the last ones without it. No condition but the stated checks. -/
import Derived.Deep.RegionHeld3
namespace Go.Proofs.Ytbldhfmhipdniaa
set_option linter.unusedVariables false
set_option linter.unusedSimpArgs false
open Go

/-- i waits for j, by way of at most f edges. -/
def waitsFor (ops : Array Oper) : Nat → Nat → Nat → Bool
  | 0, _, _ => false
  | f + 1, i, j => ((ops[i]?).map (·.after.any fun e => Region.binds .any e && (e.on == j || waitsFor ops f e.on j))).getD false
/-- The operations from n on wait for all operations ahead of n, and those ahead of n wait for elder ones alone. -/
def lateOk (ops : Array Oper) (n f : Nat) : Bool :=
  ((List.range n).all fun i => ((ops[i]?).map (·.after.all fun e => !Region.binds .any e || decide (e.on < i))).getD false) &&
  ((List.range ops.size).all fun i => decide (i < n) || (List.range n).all fun j => waitsFor ops f i j)
/-- What is to be shown behind the operations ahead of n. -/
def LateQ (P : Program) (ops : Array Oper) (Q : Exit → Act → World → Prop) (n k : Nat) (m : Array Bool) : Exit → Act → World → Prop
  | .normal, a, w => wpAny P .any ops Q k m a w
  | e, a, w => Q e a w
section
variable {P : Program} {ops : Array Oper} {Q : Exit → Act → World → Prop} {n k : Nat} {m : Array Bool}
theorem LateQ.normal {a : Act} {w : World} (h : wpAny P .any ops Q k m a w) : LateQ P ops Q n k m .normal a w := h
theorem LateQ.wp {o : Oper} {a : Act} {w : World} {K K' : Act → World → Prop} (h : ∀ a w, K a w → K' a w) (hh : o.wp P a w K (LateQ P ops Q n k m)) : o.wp P a w K' Q := by
  unfold Oper.wp at *
  generalize (execOp a.eval o).run P w = r at *
  cases r with
  | ok x w' =>
    cases x <;> simp only [Oper.upon] at hh ⊢ <;>
      first
        | exact h _ _ hh
        | exact Calls.mono hh (fun e w'' he => by cases e <;> first | exact h _ _ he | exact he)
        | exact Rows.mono hh (fun _ _ he => h _ _ he)
  | halt x w' => cases x <;> simp only [Oper.upon] at hh ⊢ <;> exact hh
theorem LateQ.wpOp {i : Nat} {a : Act} {w : World} {K K' : Act → World → Prop} (h : ∀ a w, K a w → K' a w) (hh : wpOp P ops (LateQ P ops Q n k m) i K a w) : wpOp P ops Q i K' a w := by
  unfold Go.wpOp at *
  split
  · exact h _ _ (by simpa [*] using hh)
  · rename_i o ho
    simp only [ho] at hh
    split
    · rename_i hw; simp only [hw, if_true] at hh; exact hh.imp (LateQ.wp h) id
    · rename_i hw; simp only [hw] at hh; exact h _ _ hh
theorem wpAny_up : ∀ (f : Nat) (l : Array Bool) (a : Act) (w : World), wpAny P .any ops Q f l a w → wpAny P .any ops Q (f + 1) l a w
  | 0, l, a, w, h => ⟨fun _ => h.2, fun i hi => by rw [h.1] at hi; cases hi⟩
  | f + 1, l, a, w, h => ⟨h.1, fun i hi => wpOp_mono (fun a' w' h' => wpAny_up f _ a' w' h') (h.2 i hi)⟩
theorem wpAny_ups {l : Array Bool} {a : Act} {w : World} (h : wpAny P .any ops Q k l a w) : ∀ f, wpAny P .any ops Q (f + k) l a w
  | 0 => by rw [Nat.zero_add]; exact h
  | f + 1 => by rw [Nat.add_right_comm]; exact wpAny_up _ _ _ _ (wpAny_ups h f)
/-- Whatever is listed, what it waits for is listed. -/
def Shutd (ops : Array Oper) (l : Array Bool) : Prop := ∀ i o e, ops[i]? = some o → l.getD i false = true → e ∈ o.after → Region.binds .any e = true → l.getD e.on false = true
theorem waitsFor_listed {l : Array Bool} (hs : Shutd ops l) (j : Nat) : ∀ (f i : Nat), (∀ o e, ops[i]? = some o → e ∈ o.after → Region.binds .any e = true → l.getD e.on false = true) → waitsFor ops f i j = true → l.getD j false = true
  | 0, _, _, h => by simp [waitsFor] at h
  | f + 1, i, hi, h => by
    unfold waitsFor at h
    cases ho : ops[i]? with
    | none => simp [ho] at h
    | some o =>
      simp only [ho, Option.map_some, Option.getD_some] at h
      obtain ⟨k, hk, hb⟩ := Array.any_iff_exists.1 h
      obtain ⟨hk1, hk2⟩ := hb
      simp only [Bool.and_eq_true, Bool.or_eq_true, beq_iff_eq] at hk2
      have hm : o.after[k] ∈ o.after := Array.getElem_mem _
      have hl := hi o _ ho hm hk2.2.1
      rcases hk2.2.2 with he | he
      · rwa [he] at hl
      · exact waitsFor_listed hs j f _ (fun o' e' ho' he' hb' => hs _ o' e' ho' hl he' hb') he
theorem getD_set_sm {l : Array Bool} {i j : Nat} (hi : i < l.size) : (l.setIfInBounds i true).getD j false = (decide (i = j) || l.getD j false) := by
  by_cases h : i = j
  · subst h; simp [Array.getD_eq_getD_getElem?, hi]
  · simp [Array.getD_eq_getD_getElem?, Array.getElem?_setIfInBounds_ne h, h]
structure LateI (ops : Array Oper) (n : Nat) (l L : Array Bool) : Prop where
  sl : l.size = ops.size
  sL : L.size = ops.size
  lo : ∀ i, i < n → L.getD i false = l.getD i false
  hi : ∀ i, n ≤ i → l.getD i false = false
  Hi : ∀ i, n ≤ i → i < ops.size → L.getD i false = true
  sh : Shutd ops l
theorem mem_ready2 {l : Array Bool} {i : Nat} (hl : l.size = ops.size) : i ∈ Region.ready .any ops l ↔ i < ops.size ∧ l.getD i false = false ∧ ∀ o e, ops[i]? = some o → e ∈ o.after → Region.binds .any e = true → l.getD e.on false = true := by
  unfold Region.ready
  simp only [List.mem_filter, List.mem_range, Bool.and_eq_true, Bool.not_eq_true']
  constructor
  · rintro ⟨h1, h2, h3⟩
    refine ⟨h1, ?_, fun o e ho he hb => ?_⟩
    · simpa [Array.getD_eq_getD_getElem?, hl, h1] using h2
    · simp only [ho, Option.map_some, Option.getD_some] at h3
      have := Array.all_iff_forall.1 h3
      obtain ⟨k, hk, rfl⟩ := Array.mem_iff_getElem.1 he
      have h4 := this k hk ⟨by omega, hk⟩
      simpa [hb] using h4
  · rintro ⟨h1, h2, h3⟩
    refine ⟨h1, ?_, ?_⟩
    · simpa [Array.getD_eq_getD_getElem?, hl, h1] using h2
    · have ho : ops[i]? = some ops[i] := Array.getElem?_eq_getElem h1
      simp only [ho, Option.map_some, Option.getD_some]
      refine Array.all_iff_forall.2 fun k hk _ => ?_
      have h5 := h3 _ (ops[i]).after[k] ho (Array.getElem_mem _)
      cases hb : Region.binds .any (ops[i]).after[k]
      · simp
      · simpa using h5 hb
theorem wpAny_late {f : Nat} (hn : n ≤ ops.size) (hok : lateOk ops n f = true) (hm : m.size = ops.size) (hml : ∀ i, m.getD i false = decide (i < n)) :
    ∀ (fuel : Nat) (l L : Array Bool) (a : Act) (w : World), LateI ops n l L → wpAny P .any ops (LateQ P ops Q n k m) fuel L a w → wpAny P .any ops Q (fuel + k) l a w := by
  simp only [lateOk, Bool.and_eq_true, List.all_eq_true, List.mem_range, Bool.or_eq_true, decide_eq_true_eq] at hok
  obtain ⟨hE, hL⟩ := hok
  -- the least operation ahead of n that is not listed is ready
  have least : ∀ (l : Array Bool), l.size = ops.size → (∃ i, i < n ∧ l.getD i false = false) → ∃ i, i < n ∧ i ∈ Region.ready .any ops l := by
    intro l hl hex
    obtain ⟨i, ⟨hi1, hi2⟩, hmin⟩ : ∃ i, (i < n ∧ l.getD i false = false) ∧ ∀ j, j < i → ¬ (j < n ∧ l.getD j false = false) := by
      obtain ⟨i0, h0⟩ := hex
      induction i0 using Nat.strongRecOn with
      | _ i0 ih =>
        by_cases hc : ∃ j, j < i0 ∧ (j < n ∧ l.getD j false = false)
        · obtain ⟨j, hj, hj2⟩ := hc
          exact ih j hj hj2
        · exact ⟨i0, h0, fun j hj h => hc ⟨j, hj, h⟩⟩
    refine ⟨i, hi1, (mem_ready2 hl).2 ⟨by omega, hi2, fun o e ho he hb => ?_⟩⟩
    have h1 := hE i hi1
    simp only [ho, Option.map_some, Option.getD_some] at h1
    obtain ⟨q, hq, rfl⟩ := Array.mem_iff_getElem.1 he
    have h2 := Array.all_iff_forall.1 h1 q hq ⟨by omega, hq⟩
    simp only [hb, Bool.not_true, Bool.false_or, decide_eq_true_eq] at h2
    have h3 := hmin _ h2
    cases hc : l.getD (o.after[q]).on false
    · exact absurd ⟨by omega, hc⟩ h3
    · rfl
  -- all ahead of n are listed: the rest
  have full : ∀ (l L : Array Bool), LateI ops n l L → (∀ i, i < n → l.getD i false = true) → l = m := by
    intro l L hI hall
    refine Array.ext (by rw [hI.sl, hm]) fun i h1 h2 => ?_
    have e1 : l.getD i false = l[i] := by simp [Array.getD_eq_getD_getElem?, h1]
    have e2 : m.getD i false = m[i] := by simp [Array.getD_eq_getD_getElem?, h2]
    rw [← e1, ← e2, hml]
    by_cases hi : i < n
    · rw [hall i hi]; simp [hi]
    · rw [hI.hi i (by omega)]; simp [hi]
  have noneL : ∀ (l L : Array Bool), LateI ops n l L → (Region.ready .any ops L = [] ↔ ∀ i, i < n → l.getD i false = true) := by
    intro l L hI
    constructor
    · intro hr i hi
      cases hc : l.getD i false
      · obtain ⟨j, hj, hj2⟩ := least L hI.sL ⟨i, hi, by rw [hI.lo i hi]; exact hc⟩
        rw [hr] at hj2
        cases hj2
      · rfl
    · intro hall
      refine List.eq_nil_iff_forall_not_mem.2 fun i hi => ?_
      obtain ⟨h1, h2, _⟩ := (mem_ready2 hI.sL).1 hi
      by_cases hin : i < n
      · rw [hI.lo i hin, hall i hin] at h2; cases h2
      · rw [hI.Hi i (by omega) h1] at h2; cases h2
  intro fuel
  induction fuel with
  | zero =>
    intro l L a w hI h
    have := full l L hI ((noneL l L hI).1 h.1)
    subst this
    rw [Nat.zero_add]
    exact h.2
  | succ fuel ih =>
    intro l L a w hI h
    by_cases hall : ∀ i, i < n → l.getD i false = true
    · have := full l L hI hall
      subst this
      exact wpAny_ups (h.1 ((noneL l L hI).2 hall)) _
    · rw [Nat.add_right_comm]
      have hex : ∃ i, i < n ∧ l.getD i false = false := by
        refine Classical.byContradiction fun hc => hall fun i hi => ?_
        cases hh : l.getD i false
        · exact absurd ⟨i, hi, hh⟩ hc
        · rfl
      refine ⟨fun hr => ?_, fun i hi => ?_⟩
      · obtain ⟨j, _, hj2⟩ := least l hI.sl hex
        rw [hr] at hj2
        cases hj2
      · obtain ⟨h1, h2, h3⟩ := (mem_ready2 hI.sl).1 hi
        have hin : i < n := by
          refine Classical.byContradiction fun hc => ?_
          obtain ⟨j, hj, hj2⟩ := hex
          have h4 := waitsFor_listed hI.sh j f i h3 ((hL i h1).resolve_left hc j hj)
          rw [hj2] at h4
          cases h4
        have hiL : i ∈ Region.ready .any ops L := by
          refine (mem_ready2 hI.sL).2 ⟨h1, by rw [hI.lo i hin]; exact h2, fun o e ho he hb => ?_⟩
          have h4 := h3 o e ho he hb
          by_cases hen : e.on < n
          · rw [hI.lo _ hen]; exact h4
          · rw [hI.hi _ (by omega)] at h4; cases h4
        refine LateQ.wpOp (fun a' w' h' => ih _ _ a' w' ⟨by simpa using hI.sl, by simpa using hI.sL, fun q hq => ?_, fun q hq => ?_, fun q hq hq2 => ?_, fun q o e ho hq he hb => ?_⟩ h') (h.2 i hiL)
        · rw [getD_set_sm (by rw [hI.sL]; exact h1), getD_set_sm (by rw [hI.sl]; exact h1), hI.lo q hq]
        · rw [getD_set_sm (by rw [hI.sl]; exact h1), hI.hi q hq]; simp; omega
        · rw [getD_set_sm (by rw [hI.sL]; exact h1), hI.Hi q hq hq2]; simp
        · rw [getD_set_sm (by rw [hI.sl]; exact h1)] at hq ⊢
          by_cases e1 : i = q
          · subst e1
            rw [h3 o e ho he hb]; simp
          · simp only [e1, decide_false, Bool.false_or] at hq
            rw [hI.sh q o e ho hq he hb]; simp
/-- The beginning. -/
theorem wp_region_late {id : Nat} {a : Act} {w : World} (n k f : Nat) (S : World → Prop) (hk : n + k = ops.size) (hm : P.follows .mixedOrders = true) (hok : lateOk ops n f = true) (hS : S w.drew)
    (h : S w.drew → wpAnyH P .any ops (LateQ P ops Q n k (Array.replicate n true ++ Array.replicate k false)) S n (Array.replicate n false ++ Array.replicate k true) a w.drew) : (Code.region id ops true).wp P Q a w := by
  refine wp_region_any hm ?_
  have h1 := wpAny_of_held _ _ _ _ (h hS)
  have h2 := wpAny_late (Q := Q) (k := k) (f := f) (m := Array.replicate n true ++ Array.replicate k false) (by omega) hok (by simp [hk]) (fun i => by
    simp only [Array.getD_eq_getD_getElem?, Array.getElem?_append, Array.size_replicate, Array.getElem?_replicate]
    by_cases hi : i < n
    · simp [hi]
    · simp [hi]; split <;> rfl) n (Array.replicate ops.size false) _ a w.drew ⟨by simp, by simp [hk], fun i hi => ?_, fun i hi => ?_, fun i hi hi2 => ?_, fun i o e ho hl => ?_⟩ h1
  · rw [hk] at h2; exact h2
  · simp [Array.getD_eq_getD_getElem?, Array.getElem?_append, hi, Array.getElem?_replicate]; split <;> rfl
  · simp [Array.getD_eq_getD_getElem?, Array.getElem?_replicate]; split <;> rfl
  · simp [Array.getD_eq_getD_getElem?, Array.getElem?_append, Array.getElem?_replicate, show ¬ i < n by omega, show i - n < k by omega]
  · exfalso
    simp [Array.getD_eq_getD_getElem?, Array.getElem?_replicate] at hl
    split at hl <;> cases hl
end
/-- The cells named in cs hold the values that are named beside them. -/
def Holds (cs : List (Addr × Value)) (w : World) : Prop := ∀ c ∈ cs, w.cell? c.1 = some c.2
section
variable {cs : List (Addr × Value)} {w w' : World}
theorem Holds_nil : Holds [] w ↔ True := by simp [Holds]
theorem Holds_cons {p : Addr} {v : Value} : Holds ((p, v) :: cs) w ↔ w.cell? p = some v ∧ Holds cs w := by simp [Holds]
theorem Holds.drew (h : Holds cs w) : Holds cs w.drew := h
theorem Holds.alloc (h : Holds cs w) (o : Obj) : Holds cs (w.alloc o) := fun c hc => by
  have h1 := h c hc
  rw [World.cell?_alloc_some _ _ _ (by rw [h1]; rfl)]
  exact h1
theorem Holds.same (h : Holds cs w) (k : ∀ c ∈ cs, w'.cell? c.1 = w.cell? c.1) : Holds cs w' := fun c hc => (k c hc).trans (h c hc)
theorem Holds.far (h : Holds cs w) {p : Addr} (hp : ∀ c ∈ cs, p.block ≠ c.1.block) (v : Value) : Holds cs (w.setCell p v) := fun c hc => by
  rw [World.cell?_setCell_far _ _ _ _ (hp c hc)]; exact h c hc
end
end Go.Proofs.Ytbldhfmhipdniaa
