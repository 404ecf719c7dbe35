/- Contracts of DistanceAt. No condition but the stated bounds. -/
import Derived.Test.YtojbacaebclffaaCmt
namespace Go.Proofs.Ytojbacaebclffaa
set_option linter.unusedVariables false
open Go.RowKit

def dsq (x1 x2 t1 t2 y1 y2 s1 s2 k : Int) : Int := sidn x1 x2 t1 t2 k * (s2 - s1) - sidn y1 y2 s1 s2 k * (t2 - t1)
def dsy (t1 t2 s1 s2 k : Int) : Int := (k - t1) * (t2 - k) - (k - s1) * (s2 - k)
def dsd (t1 t2 s1 s2 : Int) : Int := (t2 - t1) * (s2 - s1)
def dsn (q y d : Int) : Int := q * q + d * d * y * y
/-- The two flights are valid and the tick is a common one. -/
def Dst (x1 x2 t1 t2 y1 y2 s1 s2 k : Int) : Prop := (((-50 ≤ x1 ∧ x1 ≤ 50) ∧ (-50 ≤ x2 ∧ x2 ≤ 50)) ∧ ((-100000 ≤ t1 ∧ t1 ≤ 100000) ∧ (t1 + 1 ≤ t2 ∧ t2 ≤ t1 + 40)) ∧ (t1 ≤ k ∧ k ≤ t2)) ∧ (((-50 ≤ y1 ∧ y1 ≤ 50) ∧ (-50 ≤ y2 ∧ y2 ≤ 50)) ∧ ((-100000 ≤ s1 ∧ s1 ≤ 100000) ∧ (s1 + 1 ≤ s2 ∧ s2 ≤ s1 + 40)) ∧ (s1 ≤ k ∧ k ≤ s2))
theorem dst_of {x1 x2 t1 t2 y1 y2 s1 s2 k : Int} (hc : cmc x1 x2 t1 t2 y1 y2 s1 s2 = 0) (hk : btw k (cmf t1 s1) (cml t2 s2) = true) : Dst x1 x2 t1 t2 y1 y2 s1 s2 k := by
  obtain ⟨h1, h2, _⟩ := cmc_zero hc
  have h3 := vfl_iff.1 h1
  have h4 := vfl_iff.1 h2
  have h5 := btw_iff.1 hk
  unfold cmf cml at h5
  unfold Dst
  split at h5 <;> split at h5 <;> omega
theorem dsq_bd {x1 x2 t1 t2 y1 y2 s1 s2 k : Int} (h : Dst x1 x2 t1 t2 y1 y2 s1 s2 k) : ((-160000 ≤ sidn x1 x2 t1 t2 k * (s2 - s1) ∧ sidn x1 x2 t1 t2 k * (s2 - s1) ≤ 160000) ∧ (-160000 ≤ sidn y1 y2 s1 s2 k * (t2 - t1) ∧ sidn y1 y2 s1 s2 k * (t2 - t1) ≤ 160000)) ∧ (-320000 ≤ dsq x1 x2 t1 t2 y1 y2 s1 s2 k ∧ dsq x1 x2 t1 t2 y1 y2 s1 s2 k ≤ 320000) := by
  have h1 := (sidn_bd (x1 := x1) (x2 := x2) (t1 := t1) (t2 := t2) (k := k) (by unfold Dst at h; omega)).2
  have h2 := (sidn_bd (x1 := y1) (x2 := y2) (t1 := s1) (t2 := s2) (k := k) (by unfold Dst at h; omega)).2
  unfold Dst at h
  have h3 := mul_bd (a := sidn x1 x2 t1 t2 k) (b := s2 - s1) (A := 4000) (B := 40) (by omega) (by omega)
  have h4 := mul_bd (a := sidn y1 y2 s1 s2 k) (b := t2 - t1) (A := 4000) (B := 40) (by omega) (by omega)
  unfold dsq
  omega
theorem dsy_bd {x1 x2 t1 t2 y1 y2 s1 s2 k : Int} (h : Dst x1 x2 t1 t2 y1 y2 s1 s2 k) : ((0 ≤ (k - t1) * (t2 - k) ∧ (k - t1) * (t2 - k) ≤ 1600) ∧ (0 ≤ (k - s1) * (s2 - k) ∧ (k - s1) * (s2 - k) ≤ 1600)) ∧ (-1600 ≤ dsy t1 t2 s1 s2 k ∧ dsy t1 t2 s1 s2 k ≤ 1600) := by
  unfold Dst at h
  have h3 := mul_bd (a := k - t1) (b := t2 - k) (A := 40) (B := 40) (by omega) (by omega)
  have h4 := mul_bd (a := k - s1) (b := s2 - k) (A := 40) (B := 40) (by omega) (by omega)
  have h5 := Int.mul_nonneg (show 0 ≤ k - t1 by omega) (show 0 ≤ t2 - k by omega)
  have h6 := Int.mul_nonneg (show 0 ≤ k - s1 by omega) (show 0 ≤ s2 - k by omega)
  unfold dsy
  omega
theorem dsd_bd {x1 x2 t1 t2 y1 y2 s1 s2 k : Int} (h : Dst x1 x2 t1 t2 y1 y2 s1 s2 k) : 1 ≤ dsd t1 t2 s1 s2 ∧ dsd t1 t2 s1 s2 ≤ 1600 := by
  unfold Dst at h
  have h3 := mul_bd (a := t2 - t1) (b := s2 - s1) (A := 40) (B := 40) (by omega) (by omega)
  have h5 := Int.mul_pos (show 0 < t2 - t1 by omega) (show 0 < s2 - s1 by omega)
  unfold dsd
  omega
theorem dsn_bd (q y d : Int) (hq : -320000 ≤ q ∧ q ≤ 320000) (hy : -1600 ≤ y ∧ y ≤ 1600) (hd : 1 ≤ d ∧ d ≤ 1600) :
    ((-102400000000 ≤ q * q ∧ q * q ≤ 102400000000) ∧ (1 ≤ d * d ∧ d * d ≤ 2560000) ∧ (-4096000000 ≤ d * d * y ∧ d * d * y ≤ 4096000000) ∧ (-6553600000000 ≤ d * d * y * y ∧ d * d * y * y ≤ 6553600000000)) ∧ (-9223372036854775807 ≤ dsn q y d ∧ dsn q y d ≤ 9223372036854775807) := by
  have h1 := mul_bd (a := q) (b := q) (A := 320000) (B := 320000) (by omega) (by omega)
  have h2 := mul_bd (a := d) (b := d) (A := 1600) (B := 1600) (by omega) (by omega)
  have h3 := mul_bd (a := d * d) (b := y) (A := 2560000) (B := 1600) (by omega) (by omega)
  have h4 := mul_bd (a := d * d * y) (b := y) (A := 4096000000) (B := 1600) (by omega) (by omega)
  have h5 := Int.mul_pos (show 0 < d by omega) (show 0 < d by omega)
  unfold dsn
  omega
set_option maxHeartbeats 1000000 in
theorem l17At_core (g f : Nat) (x1 x2 t1 t2 y1 y2 s1 s2 k q y d m z1 z n1 u0 : Int) (w : World) (a0 : w.cell? ⟨g, 0, none⟩ = some (.int .i64 x1)) (a1 : w.cell? ⟨g, 1, none⟩ = some (.int .i64 x2)) (a2 : w.cell? ⟨g, 2, none⟩ = some (.int .i64 t1)) (a3 : w.cell? ⟨g, 3, none⟩ = some (.int .i64 t2)) (b0 : w.cell? ⟨f, 0, none⟩ = some (.int .i64 y1)) (b1 : w.cell? ⟨f, 1, none⟩ = some (.int .i64 y2)) (b2 : w.cell? ⟨f, 2, none⟩ = some (.int .i64 s1)) (b3 : w.cell? ⟨f, 3, none⟩ = some (.int .i64 s2)) (hg : g < w.heap.size) (hf : f < w.heap.size) (hD : Dst x1 x2 t1 t2 y1 y2 s1 s2 k) (hq : sidn x1 x2 t1 t2 k * (s2 - s1) - sidn y1 y2 s1 s2 k * (t2 - t1) = q) (hy : (k - t1) * (t2 - k) - (k - s1) * (s2 - k) = y) (hd : (t2 - t1) * (s2 - s1) = d) (hm : d * d = m) (hz1 : m * y = z1) (hz : z1 * y = z) (hn1 : q * q = n1) (hn : n1 + z = u0) :
    Calls Try.prog 70 #[.pointer (some ⟨g, 0, none⟩), .pointer (some ⟨f, 0, none⟩), .int .i64 k] w fun e w' => e = .returned (.agg #[.int .i64 (fnum u0 m), .int .i64 (fden u0 m)]) ∧ Ext w w' := by
  have bq := dsq_bd hD
  have by_ := (dsy_bd hD)
  have bd := dsd_bd hD
  rw [show dsq x1 x2 t1 t2 y1 y2 s1 s2 k = q from hq] at bq
  rw [show dsy t1 t2 s1 s2 k = y from hy] at by_
  rw [show dsd t1 t2 s1 s2 = d from hd] at bd
  have bn := dsn_bd q y d bq.2 by_.2 bd
  rw [hm, hz1, hz, hn1, show dsn q y d = u0 from by unfold dsn; rw [hm, hz1, hz, hn1, hn]] at bn
  have e1 : -9223372036854775807 ≤ u0 ∧ u0 ≤ 9223372036854775807 := bn.2
  have e2 : -9223372036854775807 ≤ m ∧ m ≤ 9223372036854775807 := by omega
  have e3 : m ≠ 0 := by omega
  unfold Dst at hD
  obtain ⟨hD1, hD2⟩ := hD
  have hE1 : (-100000 ≤ t1 ∧ t1 ≤ 100000) ∧ (t2 ≤ t1 + 40) ∧ t1 ≤ k ∧ k ≤ t2 := by omega
  have hE2 : (-100000 ≤ s1 ∧ s1 ≤ 100000) ∧ (s2 ≤ s1 + 40) ∧ s1 ≤ k ∧ k ≤ s2 := by omega
  have hF1 : (-100000 ≤ t1 ∧ t1 ≤ 100000) ∧ (t1 ≤ t2 ∧ t2 ≤ t1 + 40) := by omega
  have hF2 : (-100000 ≤ s1 ∧ s1 ≤ 100000) ∧ (s1 ≤ s2 ∧ s2 ≤ s1 + 40) := by omega
  have w1 : IntKind.i64.wrap (t2 - t1) = t2 - t1 := IntWalk.i64_in _ (by omega)
  have w2 : IntKind.i64.wrap (s2 - s1) = s2 - s1 := IntWalk.i64_in _ (by omega)
  have ng : g ≠ w.heap.size := by omega
  have nf : f ≠ w.heap.size := by omega
  go_enter Try.func70, Try.ntmps70
  go_wp2
  go_quiet (fail)
  go_wp2
  go_quiet (fail)
  clear w1 w2
  go_wp2_with (first | (go_at_call 66; (with_reducible refine (l16Side_any g x1 x2 t1 t2 k _ (by go_simp) (by go_simp) (by go_simp) (by go_simp) hD1).mono ?_); rintro e w' ⟨rfl, n, rfl⟩) | (go_at_call 66; (with_reducible refine (l16Side_any f y1 y2 s1 s2 k _ (by go_simp) (by go_simp) (by go_simp) (by go_simp) hD2).mono ?_); rintro e w' ⟨rfl, n, rfl⟩) | (go_at_call 56; (with_reducible refine (l16Height_any g x1 x2 t1 t2 k _ (by go_simp) (by go_simp) (by go_simp) (by go_simp) hE1).mono ?_); rintro e w' ⟨rfl, n, rfl⟩) | (go_at_call 56; (with_reducible refine (l16Height_any f y1 y2 s1 s2 k _ (by go_simp) (by go_simp) (by go_simp) (by go_simp) hE2).mono ?_); rintro e w' ⟨rfl, n, rfl⟩) | (go_at_call 63; (with_reducible refine (l16Make_any u0 m _ e1 e2 e3).mono ?_); rintro e w1 ⟨rfl, hx⟩; have hz := hx.size; (try simp at hz); (try (have hq0 : w.heap.size < w1.heap.size := by omega)); (try (have hc0 : ∀ o, w1.cell? ⟨w.heap.size, o, none⟩ = _ := fun o => hx.cells.1 _ o (by first | (simp; done) | (simp; omega) | omega))); (try (have hf0 : ∀ o, w1.frozen? ⟨w.heap.size, o, none⟩ = _ := fun o => hx.cells.2 _ o (by first | (simp; done) | (simp; omega) | omega))); (try (have hq1 : w.heap.size + 1 < w1.heap.size := by omega)); (try (have hc1 : ∀ o, w1.cell? ⟨w.heap.size + 1, o, none⟩ = _ := fun o => hx.cells.1 _ o (by first | (simp; done) | (simp; omega) | omega))); (try (have hf1 : ∀ o, w1.frozen? ⟨w.heap.size + 1, o, none⟩ = _ := fun o => hx.cells.2 _ o (by first | (simp; done) | (simp; omega) | omega))); (try (have hq2 : w.heap.size + 2 < w1.heap.size := by omega)); (try (have hc2 : ∀ o, w1.cell? ⟨w.heap.size + 2, o, none⟩ = _ := fun o => hx.cells.1 _ o (by first | (simp; done) | (simp; omega) | omega))); (try (have hf2 : ∀ o, w1.frozen? ⟨w.heap.size + 2, o, none⟩ = _ := fun o => hx.cells.2 _ o (by first | (simp; done) | (simp; omega) | omega)))))
  exact bodyPost_ret (v := .agg #[.int .i64 (fnum u0 m), .int .i64 (fden u0 m)]) (by simp [results, Try.results70, go_sem, *]) rfl ⟨rfl, (by with_reducible (repeat (first | exact Ext.refl _ | apply Ext.drewN | apply Ext.drew | apply Ext.alloc | (refine Ext.set ?_ (by first | (simp; done) | (simp; omega) | omega) _) | (refine Ext.trans ?_ (by assumption)))))⟩
set_option maxHeartbeats 4000000 in
theorem distanceAt_core (x1 x2 t1 t2 y1 y2 s1 s2 k q y d m z1 z n1 u0 : Int) (w : World) (hD : Dst x1 x2 t1 t2 y1 y2 s1 s2 k) (hq : sidn x1 x2 t1 t2 k * (s2 - s1) - sidn y1 y2 s1 s2 k * (t2 - t1) = q) (hy : (k - t1) * (t2 - k) - (k - s1) * (s2 - k) = y) (hd : (t2 - t1) * (s2 - s1) = d) (hm : d * d = m) (hz1 : m * y = z1) (hz : z1 * y = z) (hn1 : q * q = n1) (hn : n1 + z = u0) :
    Calls Try.prog 71 #[.agg #[.int .i64 x1, .int .i64 x2, .int .i64 t1, .int .i64 t2], .agg #[.int .i64 y1, .int .i64 y2, .int .i64 s1, .int .i64 s2], .int .i64 k] w fun e w' => e = .returned (.agg #[.int .i64 (fnum u0 m), .int .i64 (fden u0 m)]) ∧ Ext w w' := by
  have bq := dsq_bd hD
  have by_ := (dsy_bd hD)
  have bd := dsd_bd hD
  rw [show dsq x1 x2 t1 t2 y1 y2 s1 s2 k = q from hq] at bq
  rw [show dsy t1 t2 s1 s2 k = y from hy] at by_
  rw [show dsd t1 t2 s1 s2 = d from hd] at bd
  have bn := dsn_bd q y d bq.2 by_.2 bd
  rw [hm, hz1, hz, hn1, show dsn q y d = u0 from by unfold dsn; rw [hm, hz1, hz, hn1, hn]] at bn
  have e1 : -9223372036854775807 ≤ u0 ∧ u0 ≤ 9223372036854775807 := bn.2
  have e2 : -9223372036854775807 ≤ m ∧ m ≤ 9223372036854775807 := by omega
  have e3 : m ≠ 0 := by omega
  unfold Dst at hD
  obtain ⟨hD1, hD2⟩ := hD
  have hE1 : (-100000 ≤ t1 ∧ t1 ≤ 100000) ∧ (t2 ≤ t1 + 40) ∧ t1 ≤ k ∧ k ≤ t2 := by omega
  have hE2 : (-100000 ≤ s1 ∧ s1 ≤ 100000) ∧ (s2 ≤ s1 + 40) ∧ s1 ≤ k ∧ k ≤ s2 := by omega
  have hF1 : (-100000 ≤ t1 ∧ t1 ≤ 100000) ∧ (t1 ≤ t2 ∧ t2 ≤ t1 + 40) := by omega
  have hF2 : (-100000 ≤ s1 ∧ s1 ≤ 100000) ∧ (s1 ≤ s2 ∧ s2 ≤ s1 + 40) := by omega
  have v1 : IntKind.i64.wrap ((t2 - t1) * (s2 - s1)) = (t2 - t1) * (s2 - s1) := by rw [hd]; exact IntWalk.i64_in _ (by omega)
  rw [hd] at v1
  have v2 : IntKind.i64.wrap (sidn x1 x2 t1 t2 k * (s2 - s1)) = sidn x1 x2 t1 t2 k * (s2 - s1) := IntWalk.i64_in _ (by omega)
  have v3 : IntKind.i64.wrap (sidn y1 y2 s1 s2 k * (t2 - t1)) = sidn y1 y2 s1 s2 k * (t2 - t1) := IntWalk.i64_in _ (by omega)
  have v4 : IntKind.i64.wrap q = q := IntWalk.i64_in _ (by omega)
  have v5 : IntKind.i64.wrap y = y := IntWalk.i64_in _ (by omega)
  go_enter Try.func71, Try.ntmps71
  go_wp2
  go_region_held3 (fun wz => wz.cell? ⟨w.heap.size, 0, none⟩ = some (.int .i64 x1) ∧ wz.cell? ⟨w.heap.size, 1, none⟩ = some (.int .i64 x2) ∧ wz.cell? ⟨w.heap.size, 2, none⟩ = some (.int .i64 t1) ∧ wz.cell? ⟨w.heap.size, 3, none⟩ = some (.int .i64 t2) ∧ wz.cell? ⟨w.heap.size + 1, 0, none⟩ = some (.int .i64 y1) ∧ wz.cell? ⟨w.heap.size + 1, 1, none⟩ = some (.int .i64 y2) ∧ wz.cell? ⟨w.heap.size + 1, 2, none⟩ = some (.int .i64 s1) ∧ wz.cell? ⟨w.heap.size + 1, 3, none⟩ = some (.int .i64 s2)) (go_keep)
    (first | (go_at_call 65; (with_reducible refine (duration_any x1 x2 t1 t2 _ hF1).mono ?_); rintro e w1 ⟨rfl, hx⟩; have hz := hx.size; (try simp at hz); (try (have hq0 : w.heap.size < w1.heap.size := by omega)); (try (have hc0 : ∀ o, w1.cell? ⟨w.heap.size, o, none⟩ = _ := fun o => hx.cells.1 _ o (by first | (simp; done) | (simp; omega) | omega))); (try (have hf0 : ∀ o, w1.frozen? ⟨w.heap.size, o, none⟩ = _ := fun o => hx.cells.2 _ o (by first | (simp; done) | (simp; omega) | omega))); (try (have hq1 : w.heap.size + 1 < w1.heap.size := by omega)); (try (have hc1 : ∀ o, w1.cell? ⟨w.heap.size + 1, o, none⟩ = _ := fun o => hx.cells.1 _ o (by first | (simp; done) | (simp; omega) | omega))); (try (have hf1 : ∀ o, w1.frozen? ⟨w.heap.size + 1, o, none⟩ = _ := fun o => hx.cells.2 _ o (by first | (simp; done) | (simp; omega) | omega))); (try (have hq2 : w.heap.size + 2 < w1.heap.size := by omega)); (try (have hc2 : ∀ o, w1.cell? ⟨w.heap.size + 2, o, none⟩ = _ := fun o => hx.cells.1 _ o (by first | (simp; done) | (simp; omega) | omega))); (try (have hf2 : ∀ o, w1.frozen? ⟨w.heap.size + 2, o, none⟩ = _ := fun o => hx.cells.2 _ o (by first | (simp; done) | (simp; omega) | omega)))) | (go_at_call 65; (with_reducible refine (duration_any y1 y2 s1 s2 _ hF2).mono ?_); rintro e w1 ⟨rfl, hx⟩; have hz := hx.size; (try simp at hz); (try (have hq0 : w.heap.size < w1.heap.size := by omega)); (try (have hc0 : ∀ o, w1.cell? ⟨w.heap.size, o, none⟩ = _ := fun o => hx.cells.1 _ o (by first | (simp; done) | (simp; omega) | omega))); (try (have hf0 : ∀ o, w1.frozen? ⟨w.heap.size, o, none⟩ = _ := fun o => hx.cells.2 _ o (by first | (simp; done) | (simp; omega) | omega))); (try (have hq1 : w.heap.size + 1 < w1.heap.size := by omega)); (try (have hc1 : ∀ o, w1.cell? ⟨w.heap.size + 1, o, none⟩ = _ := fun o => hx.cells.1 _ o (by first | (simp; done) | (simp; omega) | omega))); (try (have hf1 : ∀ o, w1.frozen? ⟨w.heap.size + 1, o, none⟩ = _ := fun o => hx.cells.2 _ o (by first | (simp; done) | (simp; omega) | omega))); (try (have hq2 : w.heap.size + 2 < w1.heap.size := by omega)); (try (have hc2 : ∀ o, w1.cell? ⟨w.heap.size + 2, o, none⟩ = _ := fun o => hx.cells.1 _ o (by first | (simp; done) | (simp; omega) | omega))); (try (have hf2 : ∀ o, w1.frozen? ⟨w.heap.size + 2, o, none⟩ = _ := fun o => hx.cells.2 _ o (by first | (simp; done) | (simp; omega) | omega)))))
  go_wp2
  go_region_held3 (fun wz => wz.cell? ⟨w.heap.size, 0, none⟩ = some (.int .i64 x1) ∧ wz.cell? ⟨w.heap.size, 1, none⟩ = some (.int .i64 x2) ∧ wz.cell? ⟨w.heap.size, 2, none⟩ = some (.int .i64 t1) ∧ wz.cell? ⟨w.heap.size, 3, none⟩ = some (.int .i64 t2) ∧ wz.cell? ⟨w.heap.size + 1, 0, none⟩ = some (.int .i64 y1) ∧ wz.cell? ⟨w.heap.size + 1, 1, none⟩ = some (.int .i64 y2) ∧ wz.cell? ⟨w.heap.size + 1, 2, none⟩ = some (.int .i64 s1) ∧ wz.cell? ⟨w.heap.size + 1, 3, none⟩ = some (.int .i64 s2)) (go_keep)
    (first | (go_at_call 65; (with_reducible refine (duration_any x1 x2 t1 t2 _ hF1).mono ?_); rintro e w1 ⟨rfl, hx⟩; have hz := hx.size; (try simp at hz); (try (have hq0 : w.heap.size < w1.heap.size := by omega)); (try (have hc0 : ∀ o, w1.cell? ⟨w.heap.size, o, none⟩ = _ := fun o => hx.cells.1 _ o (by first | (simp; done) | (simp; omega) | omega))); (try (have hf0 : ∀ o, w1.frozen? ⟨w.heap.size, o, none⟩ = _ := fun o => hx.cells.2 _ o (by first | (simp; done) | (simp; omega) | omega))); (try (have hq1 : w.heap.size + 1 < w1.heap.size := by omega)); (try (have hc1 : ∀ o, w1.cell? ⟨w.heap.size + 1, o, none⟩ = _ := fun o => hx.cells.1 _ o (by first | (simp; done) | (simp; omega) | omega))); (try (have hf1 : ∀ o, w1.frozen? ⟨w.heap.size + 1, o, none⟩ = _ := fun o => hx.cells.2 _ o (by first | (simp; done) | (simp; omega) | omega))); (try (have hq2 : w.heap.size + 2 < w1.heap.size := by omega)); (try (have hc2 : ∀ o, w1.cell? ⟨w.heap.size + 2, o, none⟩ = _ := fun o => hx.cells.1 _ o (by first | (simp; done) | (simp; omega) | omega))); (try (have hf2 : ∀ o, w1.frozen? ⟨w.heap.size + 2, o, none⟩ = _ := fun o => hx.cells.2 _ o (by first | (simp; done) | (simp; omega) | omega)))) | (go_at_call 65; (with_reducible refine (duration_any y1 y2 s1 s2 _ hF2).mono ?_); rintro e w1 ⟨rfl, hx⟩; have hz := hx.size; (try simp at hz); (try (have hq0 : w.heap.size < w1.heap.size := by omega)); (try (have hc0 : ∀ o, w1.cell? ⟨w.heap.size, o, none⟩ = _ := fun o => hx.cells.1 _ o (by first | (simp; done) | (simp; omega) | omega))); (try (have hf0 : ∀ o, w1.frozen? ⟨w.heap.size, o, none⟩ = _ := fun o => hx.cells.2 _ o (by first | (simp; done) | (simp; omega) | omega))); (try (have hq1 : w.heap.size + 1 < w1.heap.size := by omega)); (try (have hc1 : ∀ o, w1.cell? ⟨w.heap.size + 1, o, none⟩ = _ := fun o => hx.cells.1 _ o (by first | (simp; done) | (simp; omega) | omega))); (try (have hf1 : ∀ o, w1.frozen? ⟨w.heap.size + 1, o, none⟩ = _ := fun o => hx.cells.2 _ o (by first | (simp; done) | (simp; omega) | omega))); (try (have hq2 : w.heap.size + 2 < w1.heap.size := by omega)); (try (have hc2 : ∀ o, w1.cell? ⟨w.heap.size + 2, o, none⟩ = _ := fun o => hx.cells.1 _ o (by first | (simp; done) | (simp; omega) | omega))); (try (have hf2 : ∀ o, w1.frozen? ⟨w.heap.size + 2, o, none⟩ = _ := fun o => hx.cells.2 _ o (by first | (simp; done) | (simp; omega) | omega)))) | (go_at_call 67; (with_reducible refine (along_any x1 x2 t1 t2 k _ hD1).mono ?_); rintro e w1 ⟨rfl, hx⟩; have hz := hx.size; (try simp at hz); (try (have hq0 : w.heap.size < w1.heap.size := by omega)); (try (have hc0 : ∀ o, w1.cell? ⟨w.heap.size, o, none⟩ = _ := fun o => hx.cells.1 _ o (by first | (simp; done) | (simp; omega) | omega))); (try (have hf0 : ∀ o, w1.frozen? ⟨w.heap.size, o, none⟩ = _ := fun o => hx.cells.2 _ o (by first | (simp; done) | (simp; omega) | omega))); (try (have hq1 : w.heap.size + 1 < w1.heap.size := by omega)); (try (have hc1 : ∀ o, w1.cell? ⟨w.heap.size + 1, o, none⟩ = _ := fun o => hx.cells.1 _ o (by first | (simp; done) | (simp; omega) | omega))); (try (have hf1 : ∀ o, w1.frozen? ⟨w.heap.size + 1, o, none⟩ = _ := fun o => hx.cells.2 _ o (by first | (simp; done) | (simp; omega) | omega))); (try (have hq2 : w.heap.size + 2 < w1.heap.size := by omega)); (try (have hc2 : ∀ o, w1.cell? ⟨w.heap.size + 2, o, none⟩ = _ := fun o => hx.cells.1 _ o (by first | (simp; done) | (simp; omega) | omega))); (try (have hf2 : ∀ o, w1.frozen? ⟨w.heap.size + 2, o, none⟩ = _ := fun o => hx.cells.2 _ o (by first | (simp; done) | (simp; omega) | omega)))) | (go_at_call 67; (with_reducible refine (along_any y1 y2 s1 s2 k _ hD2).mono ?_); rintro e w1 ⟨rfl, hx⟩; have hz := hx.size; (try simp at hz); (try (have hq0 : w.heap.size < w1.heap.size := by omega)); (try (have hc0 : ∀ o, w1.cell? ⟨w.heap.size, o, none⟩ = _ := fun o => hx.cells.1 _ o (by first | (simp; done) | (simp; omega) | omega))); (try (have hf0 : ∀ o, w1.frozen? ⟨w.heap.size, o, none⟩ = _ := fun o => hx.cells.2 _ o (by first | (simp; done) | (simp; omega) | omega))); (try (have hq1 : w.heap.size + 1 < w1.heap.size := by omega)); (try (have hc1 : ∀ o, w1.cell? ⟨w.heap.size + 1, o, none⟩ = _ := fun o => hx.cells.1 _ o (by first | (simp; done) | (simp; omega) | omega))); (try (have hf1 : ∀ o, w1.frozen? ⟨w.heap.size + 1, o, none⟩ = _ := fun o => hx.cells.2 _ o (by first | (simp; done) | (simp; omega) | omega))); (try (have hq2 : w.heap.size + 2 < w1.heap.size := by omega)); (try (have hc2 : ∀ o, w1.cell? ⟨w.heap.size + 2, o, none⟩ = _ := fun o => hx.cells.1 _ o (by first | (simp; done) | (simp; omega) | omega))); (try (have hf2 : ∀ o, w1.frozen? ⟨w.heap.size + 2, o, none⟩ = _ := fun o => hx.cells.2 _ o (by first | (simp; done) | (simp; omega) | omega)))))
  go_wp2
  go_region_held3 (fun wz => wz.cell? ⟨w.heap.size, 0, none⟩ = some (.int .i64 x1) ∧ wz.cell? ⟨w.heap.size, 1, none⟩ = some (.int .i64 x2) ∧ wz.cell? ⟨w.heap.size, 2, none⟩ = some (.int .i64 t1) ∧ wz.cell? ⟨w.heap.size, 3, none⟩ = some (.int .i64 t2) ∧ wz.cell? ⟨w.heap.size + 1, 0, none⟩ = some (.int .i64 y1) ∧ wz.cell? ⟨w.heap.size + 1, 1, none⟩ = some (.int .i64 y2) ∧ wz.cell? ⟨w.heap.size + 1, 2, none⟩ = some (.int .i64 s1) ∧ wz.cell? ⟨w.heap.size + 1, 3, none⟩ = some (.int .i64 s2)) (go_keep)
    (first | (go_at_call 58; (with_reducible refine (height_any x1 x2 t1 t2 k _ hE1).mono ?_); rintro e w1 ⟨rfl, hx⟩; have hz := hx.size; (try simp at hz); (try (have hq0 : w.heap.size < w1.heap.size := by omega)); (try (have hc0 : ∀ o, w1.cell? ⟨w.heap.size, o, none⟩ = _ := fun o => hx.cells.1 _ o (by first | (simp; done) | (simp; omega) | omega))); (try (have hf0 : ∀ o, w1.frozen? ⟨w.heap.size, o, none⟩ = _ := fun o => hx.cells.2 _ o (by first | (simp; done) | (simp; omega) | omega))); (try (have hq1 : w.heap.size + 1 < w1.heap.size := by omega)); (try (have hc1 : ∀ o, w1.cell? ⟨w.heap.size + 1, o, none⟩ = _ := fun o => hx.cells.1 _ o (by first | (simp; done) | (simp; omega) | omega))); (try (have hf1 : ∀ o, w1.frozen? ⟨w.heap.size + 1, o, none⟩ = _ := fun o => hx.cells.2 _ o (by first | (simp; done) | (simp; omega) | omega))); (try (have hq2 : w.heap.size + 2 < w1.heap.size := by omega)); (try (have hc2 : ∀ o, w1.cell? ⟨w.heap.size + 2, o, none⟩ = _ := fun o => hx.cells.1 _ o (by first | (simp; done) | (simp; omega) | omega))); (try (have hf2 : ∀ o, w1.frozen? ⟨w.heap.size + 2, o, none⟩ = _ := fun o => hx.cells.2 _ o (by first | (simp; done) | (simp; omega) | omega)))) | (go_at_call 58; (with_reducible refine (height_any y1 y2 s1 s2 k _ hE2).mono ?_); rintro e w1 ⟨rfl, hx⟩; have hz := hx.size; (try simp at hz); (try (have hq0 : w.heap.size < w1.heap.size := by omega)); (try (have hc0 : ∀ o, w1.cell? ⟨w.heap.size, o, none⟩ = _ := fun o => hx.cells.1 _ o (by first | (simp; done) | (simp; omega) | omega))); (try (have hf0 : ∀ o, w1.frozen? ⟨w.heap.size, o, none⟩ = _ := fun o => hx.cells.2 _ o (by first | (simp; done) | (simp; omega) | omega))); (try (have hq1 : w.heap.size + 1 < w1.heap.size := by omega)); (try (have hc1 : ∀ o, w1.cell? ⟨w.heap.size + 1, o, none⟩ = _ := fun o => hx.cells.1 _ o (by first | (simp; done) | (simp; omega) | omega))); (try (have hf1 : ∀ o, w1.frozen? ⟨w.heap.size + 1, o, none⟩ = _ := fun o => hx.cells.2 _ o (by first | (simp; done) | (simp; omega) | omega))); (try (have hq2 : w.heap.size + 2 < w1.heap.size := by omega)); (try (have hc2 : ∀ o, w1.cell? ⟨w.heap.size + 2, o, none⟩ = _ := fun o => hx.cells.1 _ o (by first | (simp; done) | (simp; omega) | omega))); (try (have hf2 : ∀ o, w1.frozen? ⟨w.heap.size + 2, o, none⟩ = _ := fun o => hx.cells.2 _ o (by first | (simp; done) | (simp; omega) | omega)))))
  clear v1 v2 v3 v4 v5
  go_wp2_with (first | (go_at_call 64; (with_reducible refine (fraction_any u0 m _ e1 e2 e3).mono ?_); rintro e w1 ⟨rfl, hx⟩; have hz := hx.size; (try simp at hz); (try (have hq0 : w.heap.size < w1.heap.size := by omega)); (try (have hc0 : ∀ o, w1.cell? ⟨w.heap.size, o, none⟩ = _ := fun o => hx.cells.1 _ o (by first | (simp; done) | (simp; omega) | omega))); (try (have hf0 : ∀ o, w1.frozen? ⟨w.heap.size, o, none⟩ = _ := fun o => hx.cells.2 _ o (by first | (simp; done) | (simp; omega) | omega))); (try (have hq1 : w.heap.size + 1 < w1.heap.size := by omega)); (try (have hc1 : ∀ o, w1.cell? ⟨w.heap.size + 1, o, none⟩ = _ := fun o => hx.cells.1 _ o (by first | (simp; done) | (simp; omega) | omega))); (try (have hf1 : ∀ o, w1.frozen? ⟨w.heap.size + 1, o, none⟩ = _ := fun o => hx.cells.2 _ o (by first | (simp; done) | (simp; omega) | omega))); (try (have hq2 : w.heap.size + 2 < w1.heap.size := by omega)); (try (have hc2 : ∀ o, w1.cell? ⟨w.heap.size + 2, o, none⟩ = _ := fun o => hx.cells.1 _ o (by first | (simp; done) | (simp; omega) | omega))); (try (have hf2 : ∀ o, w1.frozen? ⟨w.heap.size + 2, o, none⟩ = _ := fun o => hx.cells.2 _ o (by first | (simp; done) | (simp; omega) | omega)))))
  exact bodyPost_ret (v := .agg #[.int .i64 (fnum u0 m), .int .i64 (fden u0 m)]) (by simp [results, Try.results71, go_sem, *]) rfl ⟨rfl, (by with_reducible (repeat (first | exact Ext.refl _ | apply Ext.drewN | apply Ext.drew | apply Ext.alloc | (refine Ext.set ?_ (by first | (simp; done) | (simp; omega) | omega) _) | (refine Ext.trans ?_ (by assumption)))))⟩
end Go.Proofs.Ytojbacaebclffaa
