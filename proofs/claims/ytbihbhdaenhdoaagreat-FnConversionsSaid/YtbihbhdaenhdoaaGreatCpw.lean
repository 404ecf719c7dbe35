/- Cpe Cpo in one text (a claim has at most 60 files). No condition but the stated bounds. -/
import Derived.Test.YtbihbhdaenhdoaaGreatTog
import Derived.Test.YtbihbhdaenhdoaaGreatPbo
import Derived.Test.YtbihbhdaenhdoaaGreatSyn
import Derived.Test.YtbihbhdaenhdoaaGreatMlo
import Derived.Deep.RegionLawGrows
import Derived.Test.YtbihbhdaenhdoaaGreatMlv
import Derived.Test.YtbihbhdaenhdoaaGreatLow
namespace Go.Proofs.YtbihbhdaenhdoaaGreat
set_option linter.unusedVariables false
set_option linter.unusedSimpArgs false
open Go.ChangeShapes Go.WideShapes Go.ChangeAt Go.RowKit Go.Joins Go.Deep

/-- 'append(s, nothing...)'. -/
theorem run_append_none (W : World) (t ty e : TypeId) (i : TypeInfo) {P : Program} (ht : P.underlying t = some (.slice e)) (hi : P.info? e = some i) (X : Addr) (A : Option Addr) (c : Nat) :
    (Builtin.append_ #[t, t] ty #[.slice (some X) 0 0, .slice A 0 c]).run P W = .ok (.slice (some X) 0 0) W := by
  cases A <;> simp [Builtin.append_, run_underlying ht, sizeOf, typeInfo, hi, Builtin.lenOf, Builtin.firstCells, storeCells, loadCells, loadCellsFrom]
theorem wp_appE {o : Oper} {a : Act} {K : Act → World → Prop} {Q : Exit → Act → World → Prop} {W : World} (s x : Operand) {t e : TypeId} {i : TypeInfo} (ht : Tryz.prog.underlying t = some (.slice e)) (hi : Tryz.prog.info? e = some i)
    (ho : o.op = .call { callee := .builtin .append, args := #[s, x], argTypes := #[t, t] }) {X : Addr} (hs : a.eval s = .slice (some X) 0 0) {A : Option Addr} {c : Nat} (hx : a.eval x = .slice A 0 c)
    (h : K (a.put o.dst (.slice (some X) 0 0)) W) : o.wp Tryz.prog a W K Q := by
  unfold Oper.wp execOp
  simp only [ho, resolve, invoke, builtin, Sem.run_bind, Sem.run_pure, Result.andThen_ok, List.map_toArray, List.map_cons, List.map_nil, hs, hx, run_append_none W t o.type e i ht hi X A c]
  exact h
theorem appE {W : World} {ops : Array Oper} {rest : List Oper} {o : Oper} {a : Act} {Q : Exit → Act → World → Prop} (hgd : o.guard = none) (s x : Operand) {t e : TypeId} {i : TypeInfo} (ht : Tryz.prog.underlying t = some (.slice e)) (hi : Tryz.prog.info? e = some i)
    (ho : o.op = .call { callee := .builtin .append, args := #[s, x], argTypes := #[t, t] }) {X : Addr} (hs : a.eval s = .slice (some X) 0 0) {A : Option Addr} {c : Nat} (hx : a.eval x = .slice A 0 c)
    (h : wpList Tryz.prog ops Q rest (a.put o.dst (.slice (some X) 0 0)) W) : wpList Tryz.prog ops Q (o :: rest) a W :=
  wpList_plain hgd fun _ hK => wp_appE s x ht hi ho hs hx (hK _ _ h)
theorem stepE {W : World} {ops : Array Oper} {o : Oper} {a : Act} {K : Act → World → Prop} {Q : Exit → Act → World → Prop} {E : Prop} (hgd : o.guard = none) (s x : Operand) {t e : TypeId} {i : TypeInfo} (ht : Tryz.prog.underlying t = some (.slice e)) (hi : Tryz.prog.info? e = some i)
    (ho : o.op = .call { callee := .builtin .append, args := #[s, x], argTypes := #[t, t] }) {X : Addr} (hs : a.eval s = .slice (some X) 0 0) {A : Option Addr} {c : Nat} (hx : a.eval x = .slice A 0 c)
    (h : K (a.put o.dst (.slice (some X) 0 0)) W) : if Region.wanted o (yielded ops a.tmps) = true then Oper.wp Tryz.prog o a W K Q else E := by
  have hw : Region.wanted o (yielded ops a.tmps) = true := by simp [Region.wanted, hgd]
  rw [if_pos hw]
  exact wp_appE s x ht hi ho hs hx h
theorem iThr : ∃ i, Tryz.prog.info? 86 = some i := by obtain ⟨i, hi, _⟩ := Option.map_eq_some_iff.1 infoThrow; exact ⟨i, hi⟩
theorem infoSyb2 : (Tryz.prog.info? 102).map (fun i => (i.zero, i.size, i.bytes)) = some (some (.agg #[.int .i64 0, .bool false, .int .i64 0, .bool false]), 4, 32) := by kernel_rfl
theorem iSyb : ∃ i, Tryz.prog.info? 102 = some i := by obtain ⟨i, hi, _⟩ := Option.map_eq_some_iff.1 infoSyb2; exact ⟨i, hi⟩
/-- The cells of beats that are read. -/
theorem cellsSyn {W : World} {A : Option Addr} {m : Nat} {ts : List (Int × Bool)} (hr : Syn W A m ts) (hm : 1 ≤ m) : ∃ ad, A = some ad ∧ (flT ts).length = m * 4 ∧ (∀ j u, (flT ts)[j]? = some u → W.cell? (ad.add j) = some u) ∧ (∀ u ∈ flT ts, u.oneCell' = true) := by
  obtain ⟨b, off, rfl, _, hc⟩ := hr.at_ (by omega)
  have hl := hr.len
  refine ⟨_, rfl, by rw [flT_len, hl]; omega, fun j u hu => ?_, fun u hu => ?_⟩
  · have hj : j < m * 4 := by
      have := (List.getElem?_eq_some_iff.1 hu).1
      rw [flT_len, hl] at this
      omega
    have hadd : (⟨b, off, none⟩ : Addr).add j = ⟨b, off + j, none⟩ := by cases j <;> simp [Addr.add]
    rw [hadd, ← hu]
    obtain ⟨h1, h2, h3, h4⟩ := hc (j / 4) (by omega)
    obtain ⟨g0, g1⟩ := flT_get ts (2 * (j / 4)) (by omega)
    obtain ⟨g2, g3⟩ := flT_get ts (2 * (j / 4) + 1) (by omega)
    rcases (show j % 4 = 0 ∨ j % 4 = 1 ∨ j % 4 = 2 ∨ j % 4 = 3 by omega) with e | e | e | e
    · rw [show off + j = off + j / 4 * 4 by omega, h1, ← g0]
      congr 1
      omega
    · rw [show off + j = off + j / 4 * 4 + 1 by omega, h2, ← g1]
      congr 1
      omega
    · rw [show off + j = off + j / 4 * 4 + 2 by omega, h3, ← g2]
      congr 1
      omega
    · rw [show off + j = off + j / 4 * 4 + 3 by omega, h4, ← g3]
      congr 1
      omega
  · simp only [flT, List.mem_flatMap] at hu
    obtain ⟨t, _, hu⟩ := hu
    simp at hu
    rcases hu with rfl | rfl <;> rfl
theorem rowS_of {w : World} {lo : Nat} {A : Option Addr} {n c : Nat} {ts : List (Int × Bool)} (h : w.ownsRow lo 102 4 (.slice A n c) n (flT ts)) (hl : ts.length = 2 * n) : RowS w lo w.heap.size A n c ts :=
  ⟨hl, _, ⟨h, fun a ha => (World.ownsRow.lt h a.block (by rw [ha]; rfl)).2⟩, fun i hi => by
    obtain ⟨a, b⟩ := flT_get ts (2 * i) (by omega)
    obtain ⟨c, d⟩ := flT_get ts (2 * i + 1) (by omega)
    rw [show 2 * i * 2 = i * 4 by omega] at a b
    rw [show (2 * i + 1) * 2 = i * 4 + 2 by omega] at c d
    exact ⟨a, b, c, d⟩⟩
/-- 'append([]SyncBeat{}, list...)' at a step of a region that draws. -/
theorem stepS {W : World} {ops : Array Oper} {o : Oper} {a : Act} {K : Act → World → Prop} {Q : Exit → Act → World → Prop} {E : Prop} (hgd : o.guard = none) (s x : Operand)
    (ho : o.op = .call { callee := .builtin .append, args := #[s, x], argTypes := #[28, 28] }) {X : Addr} (hs : a.eval s = .slice (some X) 0 0)
    {A : Option Addr} {m c : Nat} {ts : List (Int × Bool)} (hr : Syn W A m ts) (hx : a.eval x = .slice A m c) (hm : 1 ≤ m ∧ m ≤ 1000)
    (h : ∀ A' c' w', RowS w' W.heap.size w'.heap.size A' m c' ts → Ext W w' → K (a.put o.dst (.slice A' m c')) w') :
    if Region.wanted o (yielded ops a.tmps) = true then Oper.wp Tryz.prog o a W K Q else E := by
  obtain ⟨i, hi, hzz⟩ := Option.map_eq_some_iff.1 infoSyb2
  simp only [Prod.mk.injEq] at hzz
  obtain ⟨hz, hs2, hb⟩ := hzz
  obtain ⟨ad, rfl, hl, hc, h1⟩ := cellsSyn hr hm.1
  refine step_append_grows hgd s x 28 ho 102 i _ 4 32 Tryz.underlying28 hi hz hs2 hb rfl (by omega) (some X) 0 0 [] hs (fun h => by cases h) rfl (fun b _ j u hu => by simp at hu) ad m c (flT ts) hx hl hc h1 (by omega) (by unfold maxLen; omega) (by omega) ?_
  intro v' w' hown hg
  rw [Nat.zero_add, List.nil_append] at hown
  have hE : Ext W w' := (Ext.refl W).grown hg (fun k hk => by cases hk)
  rcases ownsRow_forms hown with ⟨rfl, h0⟩ | ⟨g, cap, rfl⟩
  · omega
  · exact h _ _ _ (rowS_of hown hr.len) hE
/-- .. in a region that keeps its order. -/
theorem appS {W : World} {ops : Array Oper} {rest : List Oper} {o : Oper} {a : Act} {Q : Exit → Act → World → Prop} (hgd : o.guard = none) (s x : Operand)
    (ho : o.op = .call { callee := .builtin .append, args := #[s, x], argTypes := #[28, 28] }) {X : Addr} (hs : a.eval s = .slice (some X) 0 0)
    {A : Option Addr} {m c : Nat} {ts : List (Int × Bool)} (hr : Syn W A m ts) (hx : a.eval x = .slice A m c) (hm : 1 ≤ m ∧ m ≤ 1000)
    (h : ∀ A' c' w', RowS w' W.heap.size w'.heap.size A' m c' ts → Ext W w' → wpList Tryz.prog ops Q rest (a.put o.dst (.slice A' m c')) w') : wpList Tryz.prog ops Q (o :: rest) a W := by
  refine wpList_plain hgd fun K hK => ?_
  have hw : Region.wanted o (yielded ops a.tmps) = true := by simp [Region.wanted, hgd]
  have key := stepS (W := W) (ops := ops) (o := o) (a := a) (K := K) (Q := Q) (E := True) hgd s x ho hs hr hx hm (fun A' c' w' h1 h2 => hK _ _ (h A' c' w' h1 h2))
  rw [if_pos hw] at key
  exact key
set_option maxHeartbeats 2000000 in
theorem copied_none (A B : Option Addr) (c d : Nat) (w : World) :
    Calls Tryz.prog 58 #[.agg #[.slice A 0 c, .slice B 0 d]] w fun e w' => ∃ A1 c1 B1 d1, e = .returned (.agg #[.slice A1 0 c1, .slice B1 0 d1]) ∧ Ext w w' := by
  obtain ⟨i, hi⟩ := iThr
  go_enter Tryz.func58, Tryz.ntmps58
  go_wp2
  go_region_held3 (fun wz => wz.cell? ⟨w.heap.size, 0, none⟩ = some (.slice A 0 c) ∧ wz.cell? ⟨w.heap.size, 1, none⟩ = some (.slice B 0 d)) (go_keep) (refine stepE (by rfl) _ _ Tryz.underlying29 hi (by rfl) (by rfl) (by rfl) ?_)
  all_goals (go_wp2; refine bodyPost_ret (v := .agg #[.slice _ 0 0, .slice _ 0 0]) (by simp [results, Tryz.results58, go_sem, *]; exact ⟨rfl, rfl⟩) rfl ⟨_, _, _, _, rfl, (by with_reducible (repeat (first | exact Ext.refl _ | apply Ext.drewN | apply Ext.drew | apply Ext.alloc | (refine Ext.set ?_ (by first | (simp; done) | (simp; omega) | omega) _) | (refine Ext.trans ?_ (by assumption)))))⟩)
set_option maxHeartbeats 2000000 in
theorem l06Own_none (g fo : Nat) (A B : Option Addr) (c d : Nat) (w : World) (hb : PBoxO w g fo A 0 c B 0 d) :
    Calls Tryz.prog 72 #[.pointer (some ⟨g, fo, none⟩)] w fun e w' => ∃ A1 c1 B1 d1, e = .returned (.agg #[.slice A1 0 c1, .slice B1 0 d1]) ∧ Ext w w' := by
  obtain ⟨i, hi⟩ := iThr
  obtain ⟨hlt, b0, b1⟩ := hb
  have hlt1 : g < w.heap.size + 1 := by omega
  have hlt2 : g < w.heap.size + 1 + 1 := by omega
  have hlt3 : g < w.heap.size + 1 + 1 + 1 := by omega
  go_enter Tryz.func72, Tryz.ntmps72
  go_wp2
  go_region_held3 (fun wz => wz.cell? ⟨g, fo, none⟩ = some (.slice A 0 c) ∧ wz.cell? ⟨g, fo + 1, none⟩ = some (.slice B 0 d)) (exact ⟨(show Ext w _ from (by with_reducible (repeat (first | exact Ext.refl _ | apply Ext.drewN | apply Ext.drew | apply Ext.alloc | (refine Ext.set ?_ (by first | (simp; done) | (simp; omega) | omega) _) | (refine Ext.trans ?_ (by assumption)))))).cell hlt b0, (show Ext w _ from (by with_reducible (repeat (first | exact Ext.refl _ | apply Ext.drewN | apply Ext.drew | apply Ext.alloc | (refine Ext.set ?_ (by first | (simp; done) | (simp; omega) | omega) _) | (refine Ext.trans ?_ (by assumption)))))).cell hlt b1⟩) (refine stepE (by rfl) _ _ Tryz.underlying29 hi (by rfl) (by rfl) (by rfl) ?_)
  all_goals (go_wp2; refine bodyPost_ret (v := .agg #[.slice _ 0 0, .slice _ 0 0]) (by simp [results, Tryz.results72, go_sem, *]; exact ⟨rfl, rfl⟩) rfl ⟨_, _, _, _, rfl, (by with_reducible (repeat (first | exact Ext.refl _ | apply Ext.drewN | apply Ext.drew | apply Ext.alloc | (refine Ext.set ?_ (by first | (simp; done) | (simp; omega) | omega) _) | (refine Ext.trans ?_ (by assumption)))))⟩)
end Go.Proofs.YtbihbhdaenhdoaaGreat

namespace Go.Proofs.YtbihbhdaenhdoaaGreat
set_option linter.unusedVariables false
set_option linter.unusedSimpArgs false
open Go.ChangeShapes Go.WideShapes Go.ChangeAt Go.RowKit Go.Joins Go.Deep

set_option maxHeartbeats 4000000 in
theorem l06Own_o (g fo : Nat) (A B : Option Addr) (n c m d : Nat) (ts us : List (Int × Bool)) (w : World) (hb : PBoxO w g fo A n c B m d) (hI : Thr w A n ts) (hJ : Thr w B m us) (hn : 1 ≤ n ∧ n ≤ 8) (hm : 1 ≤ m ∧ m ≤ 8) :
    Calls Tryz.prog 72 #[.pointer (some ⟨g, fo, none⟩)] w (RetPass w n ts m us) := by
  have hn2 : 1 ≤ n ∧ n ≤ 1000 := by omega
  have hm2 : 1 ≤ m ∧ m ≤ 1000 := by omega
  obtain ⟨hlt, b0, b1⟩ := hb
  have hlt1 : g < w.heap.size + 1 := by omega
  have hlt2 : g < w.heap.size + 1 + 1 := by omega
  have hlt3 : g < w.heap.size + 1 + 1 + 1 := by omega
  go_enter Tryz.func72, Tryz.ntmps72
  go_wp2
  go_region_held3 (fun wz => wz.cell? ⟨g, fo, none⟩ = some (.slice A n c) ∧ wz.cell? ⟨g, fo + 1, none⟩ = some (.slice B m d)) (exact ⟨(show Ext w _ from (by with_reducible (repeat (first | exact Ext.refl _ | apply Ext.drewN | apply Ext.drew | apply Ext.alloc | (refine Ext.set ?_ (by first | (simp; done) | (simp; omega) | omega) _) | (refine Ext.trans ?_ (by assumption)))))).cell hlt b0, (show Ext w _ from (by with_reducible (repeat (first | exact Ext.refl _ | apply Ext.drewN | apply Ext.drew | apply Ext.alloc | (refine Ext.set ?_ (by first | (simp; done) | (simp; omega) | omega) _) | (refine Ext.trans ?_ (by assumption)))))).cell hlt b1⟩) (first | ((refine stepT (by rfl) _ _ (by rfl) (by rfl) (hI.ext (by with_reducible (repeat (first | exact Ext.refl _ | apply Ext.drewN | apply Ext.drew | apply Ext.alloc | (refine Ext.set ?_ (by first | (simp; done) | (simp; omega) | omega) _) | (refine Ext.trans ?_ (by assumption)))))) (by rfl) hn2 ?_); intro A1 c1 w1 R1 hx1; have hz1 := hx1.size; have hE1 : Ext w w1 := Ext.trans (by with_reducible (repeat (first | exact Ext.refl _ | apply Ext.drewN | apply Ext.drew | apply Ext.alloc | (refine Ext.set ?_ (by first | (simp; done) | (simp; omega) | omega) _) | (refine Ext.trans ?_ (by assumption))))) hx1; have q1 : w.heap.size < w1.heap.size := Nat.lt_of_lt_of_le (by first | (simp; done) | (simp; omega) | omega) hx1.size; have p1 : g < w1.heap.size := Nat.lt_of_lt_of_le (by first | (simp; done) | (simp; omega) | omega) hx1.size; have d10 : w1.cell? ⟨g, fo, none⟩ = some (.slice A n c) := hE1.cell hlt b0; have d11 : w1.cell? ⟨g, fo + 1, none⟩ = some (.slice B m d) := hE1.cell hlt b1; have c110 : w1.cell? ⟨w.heap.size, 0, none⟩ = some (.slice none 0 0) := hx1.cell (by first | (simp; done) | (simp; omega) | omega) (by go_simp); have c111 : w1.cell? ⟨w.heap.size, 1, none⟩ = some (.slice none 0 0) := hx1.cell (by first | (simp; done) | (simp; omega) | omega) (by go_simp); have f1 : ∀ o, w1.frozen? ⟨w.heap.size, o, none⟩ = false := fun o => (hx1.cells.2 _ o (by first | (simp; done) | (simp; omega) | omega)).trans (by go_simp)) | ((refine stepT (by rfl) _ _ (by rfl) (by rfl) (hJ.ext (by with_reducible (repeat (first | exact Ext.refl _ | apply Ext.drewN | apply Ext.drew | apply Ext.alloc | (refine Ext.set ?_ (by first | (simp; done) | (simp; omega) | omega) _) | (refine Ext.trans ?_ (by assumption)))))) (by rfl) hm2 ?_); intro A2 c2 w2 R2 hx2; have hz2 := hx2.size; have hE2 : Ext w w2 := Ext.trans (by with_reducible (repeat (first | exact Ext.refl _ | apply Ext.drewN | apply Ext.drew | apply Ext.alloc | (refine Ext.set ?_ (by first | (simp; done) | (simp; omega) | omega) _) | (refine Ext.trans ?_ (by assumption))))) hx2; have q2 : w.heap.size < w2.heap.size := Nat.lt_of_lt_of_le (by first | (simp; done) | (simp; omega) | omega) hx2.size; have p2 : g < w2.heap.size := Nat.lt_of_lt_of_le (by first | (simp; done) | (simp; omega) | omega) hx2.size; have d20 : w2.cell? ⟨g, fo, none⟩ = some (.slice A n c) := hE2.cell hlt b0; have d21 : w2.cell? ⟨g, fo + 1, none⟩ = some (.slice B m d) := hE2.cell hlt b1; have c210 : w2.cell? ⟨w.heap.size, 0, none⟩ = some (.slice none 0 0) := hx2.cell (by first | (simp; done) | (simp; omega) | omega) (by go_simp); have c211 : w2.cell? ⟨w.heap.size, 1, none⟩ = some (.slice none 0 0) := hx2.cell (by first | (simp; done) | (simp; omega) | omega) (by go_simp); have f2 : ∀ o, w2.frozen? ⟨w.heap.size, o, none⟩ = false := fun o => (hx2.cells.2 _ o (by first | (simp; done) | (simp; omega) | omega)).trans (by go_simp)))
  all_goals (go_wp2; refine bodyPost_ret (v := .agg #[.slice A1 n c1, .slice A2 m c2]) (by simp [results, Tryz.results72, go_sem, *]) rfl ⟨A1, c1, A2, c2, rfl, ?_, (by with_reducible (repeat (first | exact Ext.refl _ | apply Ext.drewN | apply Ext.drew | apply Ext.alloc | (refine Ext.set ?_ (by first | (simp; done) | (simp; omega) | omega) _) | (refine Ext.trans ?_ (by assumption)))))⟩)
  all_goals (first | (exact pass_fin0 (by first | (simp; done) | (simp; omega)) R1 (Ext.trans (by with_reducible (repeat (first | exact Ext.refl _ | apply Ext.drewN | apply Ext.drew | apply Ext.alloc | (refine Ext.set ?_ (by first | (simp; done) | (simp; omega) | omega) _) | (refine Ext.trans ?_ (by assumption))))) hx2) (by first | (simp; done) | (simp; omega)) R2 _ _ (by have := hx1.size; first | (simpa using this) | (simp; omega))) | (exact (pass_fin0 (by first | (simp; done) | (simp; omega)) R2 (Ext.trans (by with_reducible (repeat (first | exact Ext.refl _ | apply Ext.drewN | apply Ext.drew | apply Ext.alloc | (refine Ext.set ?_ (by first | (simp; done) | (simp; omega) | omega) _) | (refine Ext.trans ?_ (by assumption))))) hx1) (by first | (simp; done) | (simp; omega)) R1 _ _ (by have := hx2.size; first | (simpa using this) | (simp; omega))).swap))
theorem take_ll {L : List (List Int)} {i : Nat} (hi : i < L.length) : L.take (i + 1) = L.take i ++ [ll L i] := by
  rw [List.take_add_one]
  unfold ll
  rw [List.getElem?_eq_getElem hi]
  rfl
theorem Row.of_ownR {w w' : World} {A : Option Addr} {n c : Nat} {xs : List Int} (h : OwnR 2 1 w w' (.slice A n c) n xs) : Row w' w.heap.size w'.heap.size 2 1 A n c xs := h.row
set_option maxHeartbeats 4000000 in
theorem l04Own_any (g fo : Nat) (A : Option Addr) (n c : Nat) (L : List (List Int)) (w : World) (hB : MBox w g fo A n c) (hI : Lists w A n L) (hn : n ≤ 1000) (hL : ∀ i, i < n → (ll L i).length ≤ 1000000) :
    Calls Tryz.prog 71 #[.pointer (some ⟨g, fo, none⟩)] w (RetMu w n L) := by
  obtain ⟨hg, hb0⟩ := hB
  have HL := Lib.hid hI.len
  have HLL := Lib.hid hL
  clear hL
  have HST : Hid (MRows w ((w.alloc (.cells #[.slice none 0 0] 27)).alloc (.cells #[.slice none 0 0] 27)) (w.heap.size + 1) (w.heap.size + 2) (L.take 0) 0) :=
    ⟨by omega, by simp, ((Ext.refl _).alloc _).alloc _, by omega, by go_simp, none, 0, by go_simp, LRow.nil _ _ _⟩
  go_enter Tryz.func71, Tryz.ntmps71
  go_wp2
  go_loopw [4] (fun i wr => ∃ k : Nat, k ≤ n ∧ i = .int .i64 k ∧ wr.cell? ⟨w.heap.size, 0, none⟩ = some (.slice none 0 0) ∧ wr.frozen? ⟨w.heap.size, 0, none⟩ = false ∧ MRows w wr (w.heap.size + 1) (w.heap.size + 2) (L.take k) k) (fun i _ => n - (intOf i).toNat)
  case atStart => exact ⟨0, Nat.zero_le _, rfl, by go_simp, by go_simp, HST.out⟩
  case round =>
    clear HST
    obtain ⟨k, hk, rfl, r0, s0, hm⟩ := hrel
    obtain ⟨-, hsz, hX, -, hfr, C, d, hc, hR⟩ := hm
    have q1 : w.heap.size < wr.heap.size := by omega
    have q2 : w.heap.size + 1 < wr.heap.size := by omega
    have q3 : g < wr.heap.size := by omega
    have p0 := hX.cell hg hb0
    by_cases hlt : k < n
    · obtain ⟨b, off, rfl, hb, hcell⟩ := (hI.ext hX).at_ (by omega)
      obtain ⟨B, m, q, e0, hJ⟩ := hcell k hlt
      have hki : (k : Int) < n := by omega
      have HS := Lib.hid (take_ll (L := L) (i := k) (by rw [HL.out]; exact hlt))
      have hm6 : m ≤ 1000000 := by have := HLL.out k hlt; rw [hJ.len] at this; exact this
      have hlm := hJ.len
      clear hcell
      generalize ll L k = xs at hJ HS hlm
      have HR := Lib.hid hR
      clear hR
      go_wp2
      go_region_law (first | (go_simp; go_at_call 70; (with_reducible refine (l00Own_any B m q xs _ (hJ.ext (by with_reducible (repeat (first | exact Ext.refl _ | apply Ext.drewN | apply Ext.drew | apply Ext.alloc | (refine Ext.set ?_ (by first | (simp; done) | (simp; omega) | omega) _) | (refine Ext.trans ?_ (by assumption)))))) hm6).mono ?_); rintro e w5 ⟨A5, c5, rfl, ho5⟩; have hx5 := ho5.ext; have hR5 := ho5.row; have z5 : wr.heap.size ≤ w5.heap.size := hx5.size; have y1 : w.heap.size < w5.heap.size := (by omega); have y2 : w.heap.size + 1 < w5.heap.size := (by omega); have b5 : w5.cell? ⟨w.heap.size + 1, 0, none⟩ = some (.slice C k d) := hx5.cell q2 (by go_simp); have f5 : w5.frozen? ⟨w.heap.size + 1, 0, none⟩ = false := (hx5.cells.2 _ 0 q2).trans (by go_simp); have r5 : w5.cell? ⟨w.heap.size, 0, none⟩ = some (.slice none 0 0) := hx5.cell q1 (by go_simp); have s5 : w5.frozen? ⟨w.heap.size, 0, none⟩ = false := (hx5.cells.2 _ 0 q1).trans (by go_simp); have hE5 : Ext wr w5 := Ext.trans (by with_reducible (repeat (first | exact Ext.refl _ | apply Ext.drewN | apply Ext.drew | apply Ext.alloc | (refine Ext.set ?_ (by first | (simp; done) | (simp; omega) | omega) _) | (refine Ext.trans ?_ (by assumption))))) hx5) | (refine stepLL2 rfl _ _ rfl rfl HR.out hX (by omega) (Ext.alloc hE5 _) (by omega) rfl (heap_alloc_new _ _) rfl (hR5.ext ((Ext.refl _).alloc _)) hlm (Nat.le_refl _) (by simp) ?_; intro A2 c2 w2 R2 hx2 hz2 hk2; (try simp only [World.alloc_size] at hz2); have b2 : w2.cell? ⟨w.heap.size + 1, 0, none⟩ = some (.slice C k d) := (hk2 _ 0 (by omega)).1.trans (by go_simp); have f2 : w2.frozen? ⟨w.heap.size + 1, 0, none⟩ = false := (hk2 _ 0 (by omega)).2.trans (by go_simp); have b3 : w2.cell? ⟨w.heap.size, 0, none⟩ = some (.slice none 0 0) := (hk2 _ 0 (by omega)).1.trans (by go_simp); have f3 : w2.frozen? ⟨w.heap.size, 0, none⟩ = false := (hk2 _ 0 (by omega)).2.trans (by go_simp)))
      all_goals
        have hz3 := hx2.size
        have hz4 : w.heap.size + 2 ≤ w2.heap.size := by (try simp at hz2); omega
        have HP : Hid (MRows w (w2.setCell ⟨w.heap.size + 1, 0, none⟩ (.slice A2 (k + 1) c2)) (w.heap.size + 1) (w.heap.size + 2) (L.take (k + 1)) (k + 1)) := by show MRows _ _ _ _ _ _; rw [HS.out]; exact MRows.put (by omega) (by omega) hz4 hx2 (by omega) f2 b2 R2
        clear R2 hk2
        go_wp2
        go_roundw
        case rel => exact ⟨k + 1, by omega, by go_num, by go_simp, by go_simp, HP.out⟩
        case measure => simp [intOf]; omega
    · obtain rfl : n = k := by omega
      have HR : Hid (LRow wr (w.heap.size + 2) wr.heap.size C n d L) := by
        have e : L.take n = L := List.take_of_length_le (by rw [HL.out]; exact Nat.le_refl _)
        rw [e] at hR
        exact hR
      clear hR
      go_wp2
      refine bodyPost_ret (v := .agg #[.slice C n d]) (by simp [results, Tryz.results71, go_sem, *]) rfl ⟨C, d, rfl, ?_, (by with_reducible (repeat (first | exact Ext.refl _ | apply Ext.drewN | apply Ext.drew | apply Ext.alloc | (refine Ext.set ?_ (by first | (simp; done) | (simp; omega) | omega) _) | (refine Ext.trans ?_ (by assumption)))))⟩
      exact ((HR.out.far (p := ⟨w.heap.size, 0, none⟩) (.inl (by show w.heap.size < _; omega)) (.slice C n d)).wide (by omega) (by simp [World.setCell]))
end Go.Proofs.YtbihbhdaenhdoaaGreat
