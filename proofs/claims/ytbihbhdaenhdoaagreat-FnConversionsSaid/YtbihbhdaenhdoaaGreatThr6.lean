/- The reference's copy of a passing pattern. No condition but the stated bounds. -/
import Derived.Test.YtbihbhdaenhdoaaGreatThr5
namespace Go.Proofs.YtbihbhdaenhdoaaGreat
set_option linter.unusedVariables false
set_option linter.unusedSimpArgs false
open Go.ChangeShapes Go.WideShapes Go.ChangeAt Go.RowKit Go.Joins Go.Deep

theorem pass_fin0 {w w1 w2 : World} {lo1 lo2 : Nat} {A : Option Addr} {n c : Nat} {B : Option Addr} {m d : Nat} {ts us : List (Int × Bool)} (h1 : w.heap.size < lo1) (R1 : RowT w1 lo1 w1.heap.size A n c ts) (hX : Ext w1 w2) (h2 : w1.heap.size ≤ lo2) (R2 : RowT w2 lo2 w2.heap.size B m d us) (u v : Value) (hs : lo1 ≤ w1.heap.size) :
    PassR ((w2.setCell ⟨w.heap.size, 0, none⟩ u).setCell ⟨w.heap.size, 1, none⟩ v) w.heap.size ((w2.setCell ⟨w.heap.size, 0, none⟩ u).setCell ⟨w.heap.size, 1, none⟩ v).heap.size A n c B m d ts us := by
  have hz := hX.size
  have hsz : ((w2.setCell ⟨w.heap.size, 0, none⟩ u).setCell ⟨w.heap.size, 1, none⟩ v).heap.size = w2.heap.size := by simp [World.setCell]
  rw [hsz]
  refine ⟨?_, ?_, fun g hg hg2 => ?_⟩
  · exact (((R1.ext hX).far (.inl h1) _).far (.inl h1) _).wide (by omega) (by omega)
  · refine ((R2.far (.inl ?_) _).far (.inl ?_) _).wide (by omega) (Nat.le_refl _) <;> (simp; omega)
  · have := R1.row_bd g hg
    have := R2.row_bd g hg2
    omega
set_option maxHeartbeats 4000000 in
theorem l06Own_any (g : Nat) (A B : Option Addr) (n c m d : Nat) (ts us : List (Int × Bool)) (w : World) (hb : PBox w g A n c B m d) (hI : Thr w A n ts) (hJ : Thr w B m us) (hn : 1 ≤ n ∧ n ≤ 8) (hm : 1 ≤ m ∧ m ≤ 8) :
    Calls Tryz.prog 72 #[.pointer (some ⟨g, 0, none⟩)] w (RetPass w n ts m us) := by
  have hn2 : 1 ≤ n ∧ n ≤ 1000 := by omega
  have hm2 : 1 ≤ m ∧ m ≤ 1000 := by omega
  obtain ⟨hlt, b0, b1⟩ := hb
  have hlt1 : g < w.heap.size + 1 := by omega
  have hlt2 : g < w.heap.size + 1 + 1 := by omega
  have hlt3 : g < w.heap.size + 1 + 1 + 1 := by omega
  go_enter Tryz.func72, Tryz.ntmps72
  go_wp2
  go_region_law (first | ((refine stepT (by rfl) _ _ (by rfl) (by rfl) (hI.ext (by with_reducible (repeat (first | exact Ext.refl _ | apply Ext.drewN | apply Ext.drew | apply Ext.alloc | (refine Ext.set ?_ (by first | (simp; done) | (simp; omega) | omega) _) | (refine Ext.trans ?_ (by assumption)))))) (by rfl) hn2 ?_); intro A1 c1 w1 R1 hx1; have hz1 := hx1.size; have hE1 : Ext w w1 := Ext.trans (by with_reducible (repeat (first | exact Ext.refl _ | apply Ext.drewN | apply Ext.drew | apply Ext.alloc | (refine Ext.set ?_ (by first | (simp; done) | (simp; omega) | omega) _) | (refine Ext.trans ?_ (by assumption))))) hx1; have q1 : w.heap.size < w1.heap.size := Nat.lt_of_lt_of_le (by first | (simp; done) | (simp; omega) | omega) hx1.size; have p1 : g < w1.heap.size := Nat.lt_of_lt_of_le (by first | (simp; done) | (simp; omega) | omega) hx1.size; have d10 : w1.cell? ⟨g, 0, none⟩ = some (.slice A n c) := hE1.cell hlt b0; have d11 : w1.cell? ⟨g, 1, none⟩ = some (.slice B m d) := hE1.cell hlt b1; have c110 : w1.cell? ⟨w.heap.size, 0, none⟩ = some (.slice none 0 0) := hx1.cell (by first | (simp; done) | (simp; omega) | omega) (by go_simp); have c111 : w1.cell? ⟨w.heap.size, 1, none⟩ = some (.slice none 0 0) := hx1.cell (by first | (simp; done) | (simp; omega) | omega) (by go_simp); have f1 : ∀ o, w1.frozen? ⟨w.heap.size, o, none⟩ = false := fun o => (hx1.cells.2 _ o (by first | (simp; done) | (simp; omega) | omega)).trans (by go_simp)) | ((refine stepT (by rfl) _ _ (by rfl) (by rfl) (hJ.ext (by with_reducible (repeat (first | exact Ext.refl _ | apply Ext.drewN | apply Ext.drew | apply Ext.alloc | (refine Ext.set ?_ (by first | (simp; done) | (simp; omega) | omega) _) | (refine Ext.trans ?_ (by assumption)))))) (by rfl) hm2 ?_); intro A2 c2 w2 R2 hx2; have hz2 := hx2.size; have hE2 : Ext w w2 := Ext.trans (by with_reducible (repeat (first | exact Ext.refl _ | apply Ext.drewN | apply Ext.drew | apply Ext.alloc | (refine Ext.set ?_ (by first | (simp; done) | (simp; omega) | omega) _) | (refine Ext.trans ?_ (by assumption))))) hx2; have q2 : w.heap.size < w2.heap.size := Nat.lt_of_lt_of_le (by first | (simp; done) | (simp; omega) | omega) hx2.size; have p2 : g < w2.heap.size := Nat.lt_of_lt_of_le (by first | (simp; done) | (simp; omega) | omega) hx2.size; have d20 : w2.cell? ⟨g, 0, none⟩ = some (.slice A n c) := hE2.cell hlt b0; have d21 : w2.cell? ⟨g, 1, none⟩ = some (.slice B m d) := hE2.cell hlt b1; have c210 : w2.cell? ⟨w.heap.size, 0, none⟩ = some (.slice none 0 0) := hx2.cell (by first | (simp; done) | (simp; omega) | omega) (by go_simp); have c211 : w2.cell? ⟨w.heap.size, 1, none⟩ = some (.slice none 0 0) := hx2.cell (by first | (simp; done) | (simp; omega) | omega) (by go_simp); have f2 : ∀ o, w2.frozen? ⟨w.heap.size, o, none⟩ = false := fun o => (hx2.cells.2 _ o (by first | (simp; done) | (simp; omega) | omega)).trans (by go_simp)))
  all_goals (go_wp2; refine bodyPost_ret (v := .agg #[.slice A1 n c1, .slice A2 m c2]) (by simp [results, Tryz.results72, go_sem, *]) rfl ⟨A1, c1, A2, c2, rfl, ?_, (by with_reducible (repeat (first | exact Ext.refl _ | apply Ext.drewN | apply Ext.drew | apply Ext.alloc | (refine Ext.set ?_ (by first | (simp; done) | (simp; omega) | omega) _) | (refine Ext.trans ?_ (by assumption)))))⟩)
  all_goals (first | (exact pass_fin0 (by first | (simp; done) | (simp; omega)) R1 (Ext.trans (by with_reducible (repeat (first | exact Ext.refl _ | apply Ext.drewN | apply Ext.drew | apply Ext.alloc | (refine Ext.set ?_ (by first | (simp; done) | (simp; omega) | omega) _) | (refine Ext.trans ?_ (by assumption))))) hx2) (by first | (simp; done) | (simp; omega)) R2 _ _ (by have := hx1.size; first | (simpa using this) | (simp; omega))) | (exact (pass_fin0 (by first | (simp; done) | (simp; omega)) R2 (Ext.trans (by with_reducible (repeat (first | exact Ext.refl _ | apply Ext.drewN | apply Ext.drew | apply Ext.alloc | (refine Ext.set ?_ (by first | (simp; done) | (simp; omega) | omega) _) | (refine Ext.trans ?_ (by assumption))))) hx1) (by first | (simp; done) | (simp; omega)) R1 _ _ (by have := hx2.size; first | (simpa using this) | (simp; omega))).swap) | (trace_state; fail ))
end Go.Proofs.YtbihbhdaenhdoaaGreat
