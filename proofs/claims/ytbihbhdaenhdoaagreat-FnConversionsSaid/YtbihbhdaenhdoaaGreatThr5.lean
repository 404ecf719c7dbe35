/- Copies of passing patterns by the program and the reference. No condition but the stated bounds. -/
import Derived.Test.YtbihbhdaenhdoaaGreatThr4
import Derived.Test.YtbihbhdaenhdoaaGreatThr2
import Derived.Deep.RegionLawGrows
namespace Go.Proofs.YtbihbhdaenhdoaaGreat
set_option linter.unusedVariables false
set_option linter.unusedSimpArgs false
open Go.ChangeShapes Go.WideShapes Go.ChangeAt Go.RowKit Go.Joins Go.Deep

theorem infoThrow : (Tryz.prog.info? 86).map (fun i => (i.zero, i.size, i.bytes)) = some (some (.agg #[.int .i64 0, .bool false]), 2, 16) := by kernel_rfl
/-- What hands back a row of throws. -/
def RetT (w : World) (n : Nat) (ts : List (Int × Bool)) (e : Ending) (w' : World) : Prop := ∃ A c, e = .returned (.slice A n c) ∧ RowT w' w.heap.size w'.heap.size A n c ts ∧ Ext w w'
/-- A copy of a pattern. -/
def RetPass (w : World) (n : Nat) (ts : List (Int × Bool)) (m : Nat) (us : List (Int × Bool)) (e : Ending) (w' : World) : Prop :=
  ∃ A c B d, e = .returned (.agg #[.slice A n c, .slice B m d]) ∧ PassR w' w.heap.size w'.heap.size A n c B m d ts us ∧ Ext w w'
theorem cellsThr {W : World} {A : Option Addr} {m : Nat} {ts : List (Int × Bool)} (hr : Thr W A m ts) (hm : 1 ≤ m) : ∃ ad, A = some ad ∧ ∃ cs : List Value, cs.length = m * 2 ∧ (∀ j u, cs[j]? = some u → W.cell? (ad.add j) = some u) ∧ (∀ u ∈ cs, u.oneCell' = true) ∧ ∀ i, i < m → cs[i * 2]? = some (.int .i64 (tv ts i)) ∧ cs[i * 2 + 1]? = some (.bool (tp ts i)) := by
  obtain ⟨b, off, rfl, _, hc⟩ := hr.at_ (by omega)
  refine ⟨_, rfl, (List.range (m * 2)).map (fun j => if j % 2 = 0 then .int .i64 (tv ts (j / 2)) else .bool (tp ts (j / 2))), by simp, fun j u hu => ?_, fun u hu => ?_, fun i hi => ⟨?_, ?_⟩⟩
  · have hj := (List.getElem?_eq_some_iff.1 hu).1
    simp at hj
    rw [List.getElem?_map, List.getElem?_range hj] at hu
    simp only [Option.map_some, Option.some.injEq] at hu
    have hadd : (⟨b, off, none⟩ : Addr).add j = ⟨b, off + j, none⟩ := by cases j <;> simp [Addr.add]
    rw [hadd]
    obtain ⟨h1, h2⟩ := hc (j / 2) (by omega)
    by_cases e : j % 2 = 0
    · rw [if_pos e] at hu
      rw [← hu, ← h1]
      congr 2
      omega
    · rw [if_neg e] at hu
      rw [← hu, ← h2]
      congr 2
      omega
  · simp only [List.mem_map, List.mem_range] at hu
    obtain ⟨j, _, rfl⟩ := hu
    split <;> rfl
  · rw [List.getElem?_map, List.getElem?_range (by omega)]
    simp
  · rw [List.getElem?_map, List.getElem?_range (by omega)]
    have e1 : (i * 2 + 1) % 2 = 1 := by omega
    have e2 : (i * 2 + 1) / 2 = i := by omega
    simp [e1, e2]
/-- 'append([]PassThrow{}, list...)' at a step of a region that draws. -/
theorem stepT {W : World} {ops : Array Oper} {o : Oper} {a : Act} {K : Act → World → Prop} {Q : Exit → Act → World → Prop} {E : Prop} (hgd : o.guard = none) (s x : Operand)
    (ho : o.op = .call { callee := .builtin .append, args := #[s, x], argTypes := #[29, 29] }) {X : Addr} (hs : a.eval s = .slice (some X) 0 0)
    {A : Option Addr} {m c : Nat} {ts : List (Int × Bool)} (hr : Thr W A m ts) (hx : a.eval x = .slice A m c) (hm : 1 ≤ m ∧ m ≤ 1000)
    (h : ∀ A' c' w', RowT w' W.heap.size w'.heap.size A' m c' ts → Ext W w' → K (a.put o.dst (.slice A' m c')) w') :
    if Region.wanted o (yielded ops a.tmps) = true then Oper.wp Tryz.prog o a W K Q else E := by
  obtain ⟨i, hi, hzz⟩ := Option.map_eq_some_iff.1 infoThrow
  simp only [Prod.mk.injEq] at hzz
  obtain ⟨hz, hs2, hb⟩ := hzz
  obtain ⟨ad, rfl, cs, hl, hc, h1, hat⟩ := cellsThr hr hm.1
  refine step_append_grows hgd s x 29 ho 86 i _ 2 16 Tryz.underlying29 hi hz hs2 hb rfl (by omega) (some X) 0 0 [] hs (fun h => by cases h) rfl (fun b _ j u hu => by simp at hu) ad m c cs hx hl hc h1 (by omega) (by unfold maxLen; omega) (by omega) ?_
  intro v' w' hown hg
  rw [Nat.zero_add, List.nil_append] at hown
  have hE : Ext W w' := (Ext.refl W).grown hg (fun k hk => by cases hk)
  rcases ownsRow_forms hown with ⟨rfl, h0⟩ | ⟨g, cap, rfl⟩
  · omega
  · refine h _ _ _ ⟨hr.len, cs, ⟨hown, fun a ha => (World.ownsRow.lt hown a.block (by rw [ha]; rfl)).2⟩, hat⟩ hE
theorem pass_fin {w w1 w2 : World} {lo1 lo2 : Nat} {A : Option Addr} {n c : Nat} {B : Option Addr} {m d : Nat} {ts us : List (Int × Bool)} (h1 : w.heap.size + 1 < lo1) (R1 : RowT w1 lo1 w1.heap.size A n c ts) (hX : Ext w1 w2) (h2 : w1.heap.size ≤ lo2) (R2 : RowT w2 lo2 w2.heap.size B m d us) (u v : Value) (hs : lo1 ≤ w1.heap.size) :
    PassR ((w2.setCell ⟨w.heap.size + 1, 0, none⟩ u).setCell ⟨w.heap.size + 1, 1, none⟩ v) w.heap.size ((w2.setCell ⟨w.heap.size + 1, 0, none⟩ u).setCell ⟨w.heap.size + 1, 1, none⟩ v).heap.size A n c B m d ts us := by
  have hz := hX.size
  have hsz : ((w2.setCell ⟨w.heap.size + 1, 0, none⟩ u).setCell ⟨w.heap.size + 1, 1, none⟩ v).heap.size = w2.heap.size := by simp [World.setCell]
  rw [hsz]
  refine ⟨?_, ?_, fun g hg hg2 => ?_⟩
  · exact (((R1.ext hX).far (.inl h1) _).far (.inl h1) _).wide (by omega) (by omega)
  · refine ((R2.far (.inl ?_) _).far (.inl ?_) _).wide (by omega) (Nat.le_refl _) <;> (simp; omega)
  · have := R1.row_bd g hg
    have := R2.row_bd g hg2
    omega
set_option maxHeartbeats 2000000 in
theorem copied_any (A B : Option Addr) (n c m d : Nat) (ts us : List (Int × Bool)) (w : World) (hI : Thr w A n ts) (hJ : Thr w B m us) (hn : 1 ≤ n ∧ n ≤ 8) (hm : 1 ≤ m ∧ m ≤ 8) :
    Calls Tryz.prog 58 #[.agg #[.slice A n c, .slice B m d]] w (RetPass w n ts m us) := by
  have hn2 : 1 ≤ n ∧ n ≤ 1000 := by omega
  have hm2 : 1 ≤ m ∧ m ≤ 1000 := by omega
  go_enter Tryz.func58, Tryz.ntmps58
  go_wp2
  go_region_law (first | ((refine stepT (by rfl) _ _ (by rfl) (by rfl) (hI.ext (by with_reducible (repeat (first | exact Ext.refl _ | apply Ext.drewN | apply Ext.drew | apply Ext.alloc | (refine Ext.set ?_ (by first | (simp; done) | (simp; omega) | omega) _) | (refine Ext.trans ?_ (by assumption)))))) (by rfl) hn2 ?_); intro A1 c1 w1 R1 hx1; have hz1 := hx1.size; have q1 : w.heap.size < w1.heap.size := Nat.lt_of_lt_of_le (by first | (simp; done) | (simp; omega) | omega) hx1.size; have p1 : w.heap.size + 1 < w1.heap.size := Nat.lt_of_lt_of_le (by first | (simp; done) | (simp; omega) | omega) hx1.size; have c100 : w1.cell? ⟨w.heap.size, 0, none⟩ = some (.slice A n c) := hx1.cell (by first | (simp; done) | (simp; omega) | omega) (by go_simp); have c101 : w1.cell? ⟨w.heap.size, 1, none⟩ = some (.slice B m d) := hx1.cell (by first | (simp; done) | (simp; omega) | omega) (by go_simp); have c110 : w1.cell? ⟨w.heap.size + 1, 0, none⟩ = some (.slice none 0 0) := hx1.cell (by first | (simp; done) | (simp; omega) | omega) (by go_simp); have c111 : w1.cell? ⟨w.heap.size + 1, 1, none⟩ = some (.slice none 0 0) := hx1.cell (by first | (simp; done) | (simp; omega) | omega) (by go_simp); have f1 : ∀ o, w1.frozen? ⟨w.heap.size + 1, o, none⟩ = false := fun o => (hx1.cells.2 _ o (by first | (simp; done) | (simp; omega) | omega)).trans (by go_simp); have hE1 : Ext w w1 := Ext.trans (by with_reducible (repeat (first | exact Ext.refl _ | apply Ext.drewN | apply Ext.drew | apply Ext.alloc | (refine Ext.set ?_ (by first | (simp; done) | (simp; omega) | omega) _) | (refine Ext.trans ?_ (by assumption))))) hx1) | ((refine stepT (by rfl) _ _ (by rfl) (by rfl) (hJ.ext (by with_reducible (repeat (first | exact Ext.refl _ | apply Ext.drewN | apply Ext.drew | apply Ext.alloc | (refine Ext.set ?_ (by first | (simp; done) | (simp; omega) | omega) _) | (refine Ext.trans ?_ (by assumption)))))) (by rfl) hm2 ?_); intro A2 c2 w2 R2 hx2; have hz2 := hx2.size; have q2 : w.heap.size < w2.heap.size := Nat.lt_of_lt_of_le (by first | (simp; done) | (simp; omega) | omega) hx2.size; have p2 : w.heap.size + 1 < w2.heap.size := Nat.lt_of_lt_of_le (by first | (simp; done) | (simp; omega) | omega) hx2.size; have c200 : w2.cell? ⟨w.heap.size, 0, none⟩ = some (.slice A n c) := hx2.cell (by first | (simp; done) | (simp; omega) | omega) (by go_simp); have c201 : w2.cell? ⟨w.heap.size, 1, none⟩ = some (.slice B m d) := hx2.cell (by first | (simp; done) | (simp; omega) | omega) (by go_simp); have c210 : w2.cell? ⟨w.heap.size + 1, 0, none⟩ = some (.slice none 0 0) := hx2.cell (by first | (simp; done) | (simp; omega) | omega) (by go_simp); have c211 : w2.cell? ⟨w.heap.size + 1, 1, none⟩ = some (.slice none 0 0) := hx2.cell (by first | (simp; done) | (simp; omega) | omega) (by go_simp); have f2 : ∀ o, w2.frozen? ⟨w.heap.size + 1, o, none⟩ = false := fun o => (hx2.cells.2 _ o (by first | (simp; done) | (simp; omega) | omega)).trans (by go_simp); have hE2 : Ext w w2 := Ext.trans (by with_reducible (repeat (first | exact Ext.refl _ | apply Ext.drewN | apply Ext.drew | apply Ext.alloc | (refine Ext.set ?_ (by first | (simp; done) | (simp; omega) | omega) _) | (refine Ext.trans ?_ (by assumption))))) hx2))
  all_goals (go_wp2; refine bodyPost_ret (v := .agg #[.slice A1 n c1, .slice A2 m c2]) (by simp [results, Tryz.results58, go_sem, *]) rfl ⟨A1, c1, A2, c2, rfl, ?_, (by with_reducible (repeat (first | exact Ext.refl _ | apply Ext.drewN | apply Ext.drew | apply Ext.alloc | (refine Ext.set ?_ (by first | (simp; done) | (simp; omega) | omega) _) | (refine Ext.trans ?_ (by assumption)))))⟩)
  all_goals (first | (exact pass_fin (by first | (simp; done) | (simp; omega)) R1 (Ext.trans (by with_reducible (repeat (first | exact Ext.refl _ | apply Ext.drewN | apply Ext.drew | apply Ext.alloc | (refine Ext.set ?_ (by first | (simp; done) | (simp; omega) | omega) _) | (refine Ext.trans ?_ (by assumption))))) hx2) (by first | (simp; done) | (simp; omega)) R2 _ _ (by have := hx1.size; first | (simpa using this) | (simp; omega))) | (exact (pass_fin (by first | (simp; done) | (simp; omega)) R2 (Ext.trans (by with_reducible (repeat (first | exact Ext.refl _ | apply Ext.drewN | apply Ext.drew | apply Ext.alloc | (refine Ext.set ?_ (by first | (simp; done) | (simp; omega) | omega) _) | (refine Ext.trans ?_ (by assumption))))) hx1) (by first | (simp; done) | (simp; omega)) R1 _ _ (by have := hx2.size; first | (simpa using this) | (simp; omega))).swap) | (trace_state; fail ))
end Go.Proofs.YtbihbhdaenhdoaaGreat
