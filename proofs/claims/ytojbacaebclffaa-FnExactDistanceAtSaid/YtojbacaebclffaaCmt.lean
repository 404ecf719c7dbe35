/- Contracts of CommonTicks and DistanceAt. No condition but the stated bounds. -/
import Derived.Test.YtojbacaebclffaaCom
namespace Go.Proofs.Ytojbacaebclffaa
set_option linter.unusedVariables false
open Go.RowKit
theorem l17Code_any (g f : Nat) (x1 x2 t1 t2 y1 y2 s1 s2 : Int) (w : World) (a0 : w.cell? ⟨g, 0, none⟩ = some (.int .i64 x1)) (a1 : w.cell? ⟨g, 1, none⟩ = some (.int .i64 x2)) (a2 : w.cell? ⟨g, 2, none⟩ = some (.int .i64 t1)) (a3 : w.cell? ⟨g, 3, none⟩ = some (.int .i64 t2)) (b0 : w.cell? ⟨f, 0, none⟩ = some (.int .i64 y1)) (b1 : w.cell? ⟨f, 1, none⟩ = some (.int .i64 y2)) (b2 : w.cell? ⟨f, 2, none⟩ = some (.int .i64 s1)) (b3 : w.cell? ⟨f, 3, none⟩ = some (.int .i64 s2)) (hgf : g ≠ f) :
    Calls Try.prog 60 #[.pointer (some ⟨g, 0, none⟩), .pointer (some ⟨f, 0, none⟩)] w fun e w' => e = .returned (.int .i64 (cmc x1 x2 t1 t2 y1 y2 s1 s2)) ∧ Qt w w' := by
  cases hv : vfl x1 x2 t1 t2
  · rw [show cmc x1 x2 t1 t2 y1 y2 s1 s2 = 1 from by simp [cmc, hv]]
    go_enter Try.func60, Try.ntmps60
    go_wp2_with (first | (go_at_call 52; (with_reducible refine (l16Ok_is g x1 x2 t1 t2 _ a0 a1 a2 a3 _ hv).mono ?_); rintro e w' ⟨rfl, n, rfl⟩))
    go_ret
    exact ⟨rfl, ⟨_, rfl⟩⟩
  cases hu : vfl y1 y2 s1 s2
  · rw [show cmc x1 x2 t1 t2 y1 y2 s1 s2 = 1 from by simp [cmc, hv, hu]]
    go_enter Try.func60, Try.ntmps60
    go_wp2_with fail
    refine (l16Ok_is g x1 x2 t1 t2 _ a0 a1 a2 a3 _ hv).mono ?_
    rintro e w' ⟨rfl, n, rfl⟩
    go_wp2_with fail
    refine (l16Ok_is f y1 y2 s1 s2 _ (by simpa using b0) (by simpa using b1) (by simpa using b2) (by simpa using b3) _ hu).mono ?_
    rintro e w' ⟨rfl, m, rfl⟩
    go_wp2
    go_ret
    exact ⟨rfl, ⟨_, rfl⟩⟩
  cases hk : cmk t1 t2 s1 s2
  · rw [show cmc x1 x2 t1 t2 y1 y2 s1 s2 = 6 from by simp [cmc, hv, hu, hk]]
    go_enter Try.func60, Try.ntmps60
    go_wp2_with fail
    refine (l16Ok_is g x1 x2 t1 t2 _ a0 a1 a2 a3 _ hv).mono ?_
    rintro e w' ⟨rfl, n, rfl⟩
    go_wp2_with fail
    refine (l16Ok_is f y1 y2 s1 s2 _ (by simpa using b0) (by simpa using b1) (by simpa using b2) (by simpa using b3) _ hu).mono ?_
    rintro e w' ⟨rfl, m, rfl⟩
    go_wp2_with fail
    refine (l17Common_is g f x1 x2 t1 t2 y1 y2 s1 s2 _ (by simpa using a0) (by simpa using a1) (by simpa using a2) (by simpa using a3) (by simpa using b0) (by simpa using b1) (by simpa using b2) (by simpa using b3) _ hk).mono ?_
    rintro e w' ⟨rfl, l, rfl⟩
    go_wp2
    go_ret
    exact ⟨rfl, ⟨_, rfl⟩⟩
  · rw [show cmc x1 x2 t1 t2 y1 y2 s1 s2 = 0 from by simp [cmc, hv, hu, hk]]
    go_enter Try.func60, Try.ntmps60
    go_wp2_with fail
    refine (l16Ok_is g x1 x2 t1 t2 _ a0 a1 a2 a3 _ hv).mono ?_
    rintro e w' ⟨rfl, n, rfl⟩
    go_wp2_with fail
    refine (l16Ok_is f y1 y2 s1 s2 _ (by simpa using b0) (by simpa using b1) (by simpa using b2) (by simpa using b3) _ hu).mono ?_
    rintro e w' ⟨rfl, m, rfl⟩
    go_wp2_with fail
    refine (l17Common_is g f x1 x2 t1 t2 y1 y2 s1 s2 _ (by simpa using a0) (by simpa using a1) (by simpa using a2) (by simpa using a3) (by simpa using b0) (by simpa using b1) (by simpa using b2) (by simpa using b3) _ hk).mono ?_
    rintro e w' ⟨rfl, l, rfl⟩
    go_wp2
    go_ret
    exact ⟨rfl, ⟨_, rfl⟩⟩
theorem l17Code_is (g f : Nat) (x1 x2 t1 t2 y1 y2 s1 s2 : Int) (w : World) (a0 : w.cell? ⟨g, 0, none⟩ = some (.int .i64 x1)) (a1 : w.cell? ⟨g, 1, none⟩ = some (.int .i64 x2)) (a2 : w.cell? ⟨g, 2, none⟩ = some (.int .i64 t1)) (a3 : w.cell? ⟨g, 3, none⟩ = some (.int .i64 t2)) (b0 : w.cell? ⟨f, 0, none⟩ = some (.int .i64 y1)) (b1 : w.cell? ⟨f, 1, none⟩ = some (.int .i64 y2)) (b2 : w.cell? ⟨f, 2, none⟩ = some (.int .i64 s1)) (b3 : w.cell? ⟨f, 3, none⟩ = some (.int .i64 s2)) (hgf : g ≠ f) (c : Int) (hc : cmc x1 x2 t1 t2 y1 y2 s1 s2 = c) :
    Calls Try.prog 60 #[.pointer (some ⟨g, 0, none⟩), .pointer (some ⟨f, 0, none⟩)] w fun e w' => e = .returned (.int .i64 c) ∧ Qt w w' := by
  subst hc
  exact l17Code_any g f x1 x2 t1 t2 y1 y2 s1 s2 w a0 a1 a2 a3 b0 b1 b2 b3 hgf
theorem specCommonTicks_no (x1 x2 t1 t2 y1 y2 s1 s2 : Int) (w : World) (c : Int) (hc : cmc x1 x2 t1 t2 y1 y2 s1 s2 = c) (h0 : (c != 0) = true) :
    Calls Try.prog 34 #[.agg #[.int .i64 x1, .int .i64 x2, .int .i64 t1, .int .i64 t2], .agg #[.int .i64 y1, .int .i64 y2, .int .i64 s1, .int .i64 s2]] w fun e w' => e = .returned (.tuple #[.int .i64 0, .int .i64 0, .int .i64 c]) ∧ Ext w w' := by
  go_enter Try.func34, Try.ntmps34
  go_wp2_with (go_at_call 60; (with_reducible refine (l17Code_is _ _ x1 x2 t1 t2 y1 y2 s1 s2 _ (by go_simp) (by go_simp) (by go_simp) (by go_simp) (by go_simp) (by go_simp) (by go_simp) (by go_simp) (by omega) _ hc).mono ?_); rintro e w' ⟨rfl, n, rfl⟩)
  go_ret3
  exact ⟨rfl, (by with_reducible (repeat (first | exact Ext.refl _ | apply Ext.drewN | apply Ext.drew | apply Ext.alloc | (refine Ext.set ?_ (by first | (simp; done) | (simp; omega) | omega) _) | (refine Ext.trans ?_ (by assumption)))))⟩
theorem specCommonTicks_yes (x1 x2 t1 t2 y1 y2 s1 s2 : Int) (w : World) (hc : cmc x1 x2 t1 t2 y1 y2 s1 s2 = 0) :
    Calls Try.prog 34 #[.agg #[.int .i64 x1, .int .i64 x2, .int .i64 t1, .int .i64 t2], .agg #[.int .i64 y1, .int .i64 y2, .int .i64 s1, .int .i64 s2]] w fun e w' => e = .returned (.tuple #[.int .i64 (cmf t1 s1), .int .i64 (cml t2 s2), .int .i64 0]) ∧ Ext w w' := by
  go_enter Try.func34, Try.ntmps34
  go_wp2_with (first | (go_at_call 60; (with_reducible refine (l17Code_is _ _ x1 x2 t1 t2 y1 y2 s1 s2 _ (by go_simp) (by go_simp) (by go_simp) (by go_simp) (by go_simp) (by go_simp) (by go_simp) (by go_simp) (by omega) _ hc).mono ?_); rintro e w' ⟨rfl, n, rfl⟩) | (go_at_call 61; (with_reducible refine (l17Common_any _ _ x1 x2 t1 t2 y1 y2 s1 s2 _ (by go_simp) (by go_simp) (by go_simp) (by go_simp) (by go_simp) (by go_simp) (by go_simp) (by go_simp)).mono ?_); rintro e w' ⟨rfl, n, rfl⟩))
  go_ret3
  exact ⟨rfl, (by with_reducible (repeat (first | exact Ext.refl _ | apply Ext.drewN | apply Ext.drew | apply Ext.alloc | (refine Ext.set ?_ (by first | (simp; done) | (simp; omega) | omega) _) | (refine Ext.trans ?_ (by assumption)))))⟩
set_option maxHeartbeats 1000000 in
theorem implCommonTicks_any (x1 x2 t1 t2 y1 y2 s1 s2 : Int) (w : World) :
    Calls Try.prog 35 #[.agg #[.int .i64 x1, .int .i64 x2, .int .i64 t1, .int .i64 t2], .agg #[.int .i64 y1, .int .i64 y2, .int .i64 s1, .int .i64 s2]] w fun e w' => e = .returned (.tuple #[.int .i64 (if cmc x1 x2 t1 t2 y1 y2 s1 s2 = 0 then cmf t1 s1 else 0), .int .i64 (if cmc x1 x2 t1 t2 y1 y2 s1 s2 = 0 then cml t2 s2 else 0), .int .i64 (cmc x1 x2 t1 t2 y1 y2 s1 s2)]) ∧ Ext w w' := by
  cases hv : vfl x1 x2 t1 t2
  · rw [show cmc x1 x2 t1 t2 y1 y2 s1 s2 = 1 from by simp [cmc, hv]]
    simp only [if_neg (show ¬ (1 : Int) = 0 by decide)]
    go_enter Try.func35, Try.ntmps35
    go_wp2_with (first | (go_at_call 23; (with_reducible refine (implValidFlight_is x1 x2 t1 t2 _ hv _).mono ?_); rintro e w1 ⟨rfl, hx⟩; have hz := hx.size; (try simp at hz); (try (have hq0 : w.heap.size < w1.heap.size := by omega)); (try (have hc0 : ∀ o, w1.cell? ⟨w.heap.size, o, none⟩ = _ := fun o => hx.cells.1 _ o (by first | (simp; done) | (simp; omega) | omega))); (try (have hf0 : ∀ o, w1.frozen? ⟨w.heap.size, o, none⟩ = _ := fun o => hx.cells.2 _ o (by first | (simp; done) | (simp; omega) | omega))); (try (have hq1 : w.heap.size + 1 < w1.heap.size := by omega)); (try (have hc1 : ∀ o, w1.cell? ⟨w.heap.size + 1, o, none⟩ = _ := fun o => hx.cells.1 _ o (by first | (simp; done) | (simp; omega) | omega))); (try (have hf1 : ∀ o, w1.frozen? ⟨w.heap.size + 1, o, none⟩ = _ := fun o => hx.cells.2 _ o (by first | (simp; done) | (simp; omega) | omega))); (try (have hq2 : w.heap.size + 2 < w1.heap.size := by omega)); (try (have hc2 : ∀ o, w1.cell? ⟨w.heap.size + 2, o, none⟩ = _ := fun o => hx.cells.1 _ o (by first | (simp; done) | (simp; omega) | omega))); (try (have hf2 : ∀ o, w1.frozen? ⟨w.heap.size + 2, o, none⟩ = _ := fun o => hx.cells.2 _ o (by first | (simp; done) | (simp; omega) | omega)))))
    go_ret3
    exact ⟨rfl, (by with_reducible (repeat (first | exact Ext.refl _ | apply Ext.drewN | apply Ext.drew | apply Ext.alloc | (refine Ext.set ?_ (by first | (simp; done) | (simp; omega) | omega) _) | (refine Ext.trans ?_ (by assumption)))))⟩
  cases hu : vfl y1 y2 s1 s2
  · rw [show cmc x1 x2 t1 t2 y1 y2 s1 s2 = 1 from by simp [cmc, hv, hu]]
    simp only [if_neg (show ¬ (1 : Int) = 0 by decide)]
    go_enter Try.func35, Try.ntmps35
    go_wp2_with (first | (go_at_call 23; (with_reducible refine (implValidFlight_is x1 x2 t1 t2 _ hv _).mono ?_); rintro e w1 ⟨rfl, hx⟩; have hz := hx.size; (try simp at hz); (try (have hq0 : w.heap.size < w1.heap.size := by omega)); (try (have hc0 : ∀ o, w1.cell? ⟨w.heap.size, o, none⟩ = _ := fun o => hx.cells.1 _ o (by first | (simp; done) | (simp; omega) | omega))); (try (have hf0 : ∀ o, w1.frozen? ⟨w.heap.size, o, none⟩ = _ := fun o => hx.cells.2 _ o (by first | (simp; done) | (simp; omega) | omega))); (try (have hq1 : w.heap.size + 1 < w1.heap.size := by omega)); (try (have hc1 : ∀ o, w1.cell? ⟨w.heap.size + 1, o, none⟩ = _ := fun o => hx.cells.1 _ o (by first | (simp; done) | (simp; omega) | omega))); (try (have hf1 : ∀ o, w1.frozen? ⟨w.heap.size + 1, o, none⟩ = _ := fun o => hx.cells.2 _ o (by first | (simp; done) | (simp; omega) | omega))); (try (have hq2 : w.heap.size + 2 < w1.heap.size := by omega)); (try (have hc2 : ∀ o, w1.cell? ⟨w.heap.size + 2, o, none⟩ = _ := fun o => hx.cells.1 _ o (by first | (simp; done) | (simp; omega) | omega))); (try (have hf2 : ∀ o, w1.frozen? ⟨w.heap.size + 2, o, none⟩ = _ := fun o => hx.cells.2 _ o (by first | (simp; done) | (simp; omega) | omega)))) | (go_at_call 23; (with_reducible refine (implValidFlight_is y1 y2 s1 s2 _ hu _).mono ?_); rintro e w1 ⟨rfl, hx⟩; have hz := hx.size; (try simp at hz); (try (have hq0 : w.heap.size < w1.heap.size := by omega)); (try (have hc0 : ∀ o, w1.cell? ⟨w.heap.size, o, none⟩ = _ := fun o => hx.cells.1 _ o (by first | (simp; done) | (simp; omega) | omega))); (try (have hf0 : ∀ o, w1.frozen? ⟨w.heap.size, o, none⟩ = _ := fun o => hx.cells.2 _ o (by first | (simp; done) | (simp; omega) | omega))); (try (have hq1 : w.heap.size + 1 < w1.heap.size := by omega)); (try (have hc1 : ∀ o, w1.cell? ⟨w.heap.size + 1, o, none⟩ = _ := fun o => hx.cells.1 _ o (by first | (simp; done) | (simp; omega) | omega))); (try (have hf1 : ∀ o, w1.frozen? ⟨w.heap.size + 1, o, none⟩ = _ := fun o => hx.cells.2 _ o (by first | (simp; done) | (simp; omega) | omega))); (try (have hq2 : w.heap.size + 2 < w1.heap.size := by omega)); (try (have hc2 : ∀ o, w1.cell? ⟨w.heap.size + 2, o, none⟩ = _ := fun o => hx.cells.1 _ o (by first | (simp; done) | (simp; omega) | omega))); (try (have hf2 : ∀ o, w1.frozen? ⟨w.heap.size + 2, o, none⟩ = _ := fun o => hx.cells.2 _ o (by first | (simp; done) | (simp; omega) | omega)))))
    go_ret3
    exact ⟨rfl, (by with_reducible (repeat (first | exact Ext.refl _ | apply Ext.drewN | apply Ext.drew | apply Ext.alloc | (refine Ext.set ?_ (by first | (simp; done) | (simp; omega) | omega) _) | (refine Ext.trans ?_ (by assumption)))))⟩
  cases hk : cmk t1 t2 s1 s2
  · rw [show cmc x1 x2 t1 t2 y1 y2 s1 s2 = 6 from by simp [cmc, hv, hu, hk]]
    simp only [if_neg (show ¬ (6 : Int) = 0 by decide)]
    go_enter Try.func35, Try.ntmps35
    go_wp2_with (first | (go_at_call 23; (with_reducible refine (implValidFlight_is x1 x2 t1 t2 _ hv _).mono ?_); rintro e w1 ⟨rfl, hx⟩; have hz := hx.size; (try simp at hz); (try (have hq0 : w.heap.size < w1.heap.size := by omega)); (try (have hc0 : ∀ o, w1.cell? ⟨w.heap.size, o, none⟩ = _ := fun o => hx.cells.1 _ o (by first | (simp; done) | (simp; omega) | omega))); (try (have hf0 : ∀ o, w1.frozen? ⟨w.heap.size, o, none⟩ = _ := fun o => hx.cells.2 _ o (by first | (simp; done) | (simp; omega) | omega))); (try (have hq1 : w.heap.size + 1 < w1.heap.size := by omega)); (try (have hc1 : ∀ o, w1.cell? ⟨w.heap.size + 1, o, none⟩ = _ := fun o => hx.cells.1 _ o (by first | (simp; done) | (simp; omega) | omega))); (try (have hf1 : ∀ o, w1.frozen? ⟨w.heap.size + 1, o, none⟩ = _ := fun o => hx.cells.2 _ o (by first | (simp; done) | (simp; omega) | omega))); (try (have hq2 : w.heap.size + 2 < w1.heap.size := by omega)); (try (have hc2 : ∀ o, w1.cell? ⟨w.heap.size + 2, o, none⟩ = _ := fun o => hx.cells.1 _ o (by first | (simp; done) | (simp; omega) | omega))); (try (have hf2 : ∀ o, w1.frozen? ⟨w.heap.size + 2, o, none⟩ = _ := fun o => hx.cells.2 _ o (by first | (simp; done) | (simp; omega) | omega)))) | (go_at_call 23; (with_reducible refine (implValidFlight_is y1 y2 s1 s2 _ hu _).mono ?_); rintro e w1 ⟨rfl, hx⟩; have hz := hx.size; (try simp at hz); (try (have hq0 : w.heap.size < w1.heap.size := by omega)); (try (have hc0 : ∀ o, w1.cell? ⟨w.heap.size, o, none⟩ = _ := fun o => hx.cells.1 _ o (by first | (simp; done) | (simp; omega) | omega))); (try (have hf0 : ∀ o, w1.frozen? ⟨w.heap.size, o, none⟩ = _ := fun o => hx.cells.2 _ o (by first | (simp; done) | (simp; omega) | omega))); (try (have hq1 : w.heap.size + 1 < w1.heap.size := by omega)); (try (have hc1 : ∀ o, w1.cell? ⟨w.heap.size + 1, o, none⟩ = _ := fun o => hx.cells.1 _ o (by first | (simp; done) | (simp; omega) | omega))); (try (have hf1 : ∀ o, w1.frozen? ⟨w.heap.size + 1, o, none⟩ = _ := fun o => hx.cells.2 _ o (by first | (simp; done) | (simp; omega) | omega))); (try (have hq2 : w.heap.size + 2 < w1.heap.size := by omega)); (try (have hc2 : ∀ o, w1.cell? ⟨w.heap.size + 2, o, none⟩ = _ := fun o => hx.cells.1 _ o (by first | (simp; done) | (simp; omega) | omega))); (try (have hf2 : ∀ o, w1.frozen? ⟨w.heap.size + 2, o, none⟩ = _ := fun o => hx.cells.2 _ o (by first | (simp; done) | (simp; omega) | omega)))) | (go_at_call 62; (with_reducible refine (commonTicks_is x1 x2 t1 t2 y1 y2 s1 s2 _ hk _).mono ?_); rintro e w1 ⟨rfl, hx⟩; have hz := hx.size; (try simp at hz); (try (have hq0 : w.heap.size < w1.heap.size := by omega)); (try (have hc0 : ∀ o, w1.cell? ⟨w.heap.size, o, none⟩ = _ := fun o => hx.cells.1 _ o (by first | (simp; done) | (simp; omega) | omega))); (try (have hf0 : ∀ o, w1.frozen? ⟨w.heap.size, o, none⟩ = _ := fun o => hx.cells.2 _ o (by first | (simp; done) | (simp; omega) | omega))); (try (have hq1 : w.heap.size + 1 < w1.heap.size := by omega)); (try (have hc1 : ∀ o, w1.cell? ⟨w.heap.size + 1, o, none⟩ = _ := fun o => hx.cells.1 _ o (by first | (simp; done) | (simp; omega) | omega))); (try (have hf1 : ∀ o, w1.frozen? ⟨w.heap.size + 1, o, none⟩ = _ := fun o => hx.cells.2 _ o (by first | (simp; done) | (simp; omega) | omega))); (try (have hq2 : w.heap.size + 2 < w1.heap.size := by omega)); (try (have hc2 : ∀ o, w1.cell? ⟨w.heap.size + 2, o, none⟩ = _ := fun o => hx.cells.1 _ o (by first | (simp; done) | (simp; omega) | omega))); (try (have hf2 : ∀ o, w1.frozen? ⟨w.heap.size + 2, o, none⟩ = _ := fun o => hx.cells.2 _ o (by first | (simp; done) | (simp; omega) | omega)))))
    go_ret3
    exact ⟨rfl, (by with_reducible (repeat (first | exact Ext.refl _ | apply Ext.drewN | apply Ext.drew | apply Ext.alloc | (refine Ext.set ?_ (by first | (simp; done) | (simp; omega) | omega) _) | (refine Ext.trans ?_ (by assumption)))))⟩
  · rw [show cmc x1 x2 t1 t2 y1 y2 s1 s2 = 0 from by simp [cmc, hv, hu, hk]]
    simp only [if_true]
    go_enter Try.func35, Try.ntmps35
    go_wp2_with (first | (go_at_call 23; (with_reducible refine (implValidFlight_is x1 x2 t1 t2 _ hv _).mono ?_); rintro e w1 ⟨rfl, hx⟩; have hz := hx.size; (try simp at hz); (try (have hq0 : w.heap.size < w1.heap.size := by omega)); (try (have hc0 : ∀ o, w1.cell? ⟨w.heap.size, o, none⟩ = _ := fun o => hx.cells.1 _ o (by first | (simp; done) | (simp; omega) | omega))); (try (have hf0 : ∀ o, w1.frozen? ⟨w.heap.size, o, none⟩ = _ := fun o => hx.cells.2 _ o (by first | (simp; done) | (simp; omega) | omega))); (try (have hq1 : w.heap.size + 1 < w1.heap.size := by omega)); (try (have hc1 : ∀ o, w1.cell? ⟨w.heap.size + 1, o, none⟩ = _ := fun o => hx.cells.1 _ o (by first | (simp; done) | (simp; omega) | omega))); (try (have hf1 : ∀ o, w1.frozen? ⟨w.heap.size + 1, o, none⟩ = _ := fun o => hx.cells.2 _ o (by first | (simp; done) | (simp; omega) | omega))); (try (have hq2 : w.heap.size + 2 < w1.heap.size := by omega)); (try (have hc2 : ∀ o, w1.cell? ⟨w.heap.size + 2, o, none⟩ = _ := fun o => hx.cells.1 _ o (by first | (simp; done) | (simp; omega) | omega))); (try (have hf2 : ∀ o, w1.frozen? ⟨w.heap.size + 2, o, none⟩ = _ := fun o => hx.cells.2 _ o (by first | (simp; done) | (simp; omega) | omega)))) | (go_at_call 23; (with_reducible refine (implValidFlight_is y1 y2 s1 s2 _ hu _).mono ?_); rintro e w1 ⟨rfl, hx⟩; have hz := hx.size; (try simp at hz); (try (have hq0 : w.heap.size < w1.heap.size := by omega)); (try (have hc0 : ∀ o, w1.cell? ⟨w.heap.size, o, none⟩ = _ := fun o => hx.cells.1 _ o (by first | (simp; done) | (simp; omega) | omega))); (try (have hf0 : ∀ o, w1.frozen? ⟨w.heap.size, o, none⟩ = _ := fun o => hx.cells.2 _ o (by first | (simp; done) | (simp; omega) | omega))); (try (have hq1 : w.heap.size + 1 < w1.heap.size := by omega)); (try (have hc1 : ∀ o, w1.cell? ⟨w.heap.size + 1, o, none⟩ = _ := fun o => hx.cells.1 _ o (by first | (simp; done) | (simp; omega) | omega))); (try (have hf1 : ∀ o, w1.frozen? ⟨w.heap.size + 1, o, none⟩ = _ := fun o => hx.cells.2 _ o (by first | (simp; done) | (simp; omega) | omega))); (try (have hq2 : w.heap.size + 2 < w1.heap.size := by omega)); (try (have hc2 : ∀ o, w1.cell? ⟨w.heap.size + 2, o, none⟩ = _ := fun o => hx.cells.1 _ o (by first | (simp; done) | (simp; omega) | omega))); (try (have hf2 : ∀ o, w1.frozen? ⟨w.heap.size + 2, o, none⟩ = _ := fun o => hx.cells.2 _ o (by first | (simp; done) | (simp; omega) | omega)))) | (go_at_call 62; (with_reducible refine (commonTicks_is x1 x2 t1 t2 y1 y2 s1 s2 _ hk _).mono ?_); rintro e w1 ⟨rfl, hx⟩; have hz := hx.size; (try simp at hz); (try (have hq0 : w.heap.size < w1.heap.size := by omega)); (try (have hc0 : ∀ o, w1.cell? ⟨w.heap.size, o, none⟩ = _ := fun o => hx.cells.1 _ o (by first | (simp; done) | (simp; omega) | omega))); (try (have hf0 : ∀ o, w1.frozen? ⟨w.heap.size, o, none⟩ = _ := fun o => hx.cells.2 _ o (by first | (simp; done) | (simp; omega) | omega))); (try (have hq1 : w.heap.size + 1 < w1.heap.size := by omega)); (try (have hc1 : ∀ o, w1.cell? ⟨w.heap.size + 1, o, none⟩ = _ := fun o => hx.cells.1 _ o (by first | (simp; done) | (simp; omega) | omega))); (try (have hf1 : ∀ o, w1.frozen? ⟨w.heap.size + 1, o, none⟩ = _ := fun o => hx.cells.2 _ o (by first | (simp; done) | (simp; omega) | omega))); (try (have hq2 : w.heap.size + 2 < w1.heap.size := by omega)); (try (have hc2 : ∀ o, w1.cell? ⟨w.heap.size + 2, o, none⟩ = _ := fun o => hx.cells.1 _ o (by first | (simp; done) | (simp; omega) | omega))); (try (have hf2 : ∀ o, w1.frozen? ⟨w.heap.size + 2, o, none⟩ = _ := fun o => hx.cells.2 _ o (by first | (simp; done) | (simp; omega) | omega)))))
    go_ret3
    exact ⟨rfl, (by with_reducible (repeat (first | exact Ext.refl _ | apply Ext.drewN | apply Ext.drew | apply Ext.alloc | (refine Ext.set ?_ (by first | (simp; done) | (simp; omega) | omega) _) | (refine Ext.trans ?_ (by assumption)))))⟩
theorem implCommonTicks_no (x1 x2 t1 t2 y1 y2 s1 s2 : Int) (w : World) (c : Int) (hc : cmc x1 x2 t1 t2 y1 y2 s1 s2 = c) (h0 : (c != 0) = true) :
    Calls Try.prog 35 #[.agg #[.int .i64 x1, .int .i64 x2, .int .i64 t1, .int .i64 t2], .agg #[.int .i64 y1, .int .i64 y2, .int .i64 s1, .int .i64 s2]] w fun e w' => e = .returned (.tuple #[.int .i64 0, .int .i64 0, .int .i64 c]) ∧ Ext w w' := by
  have h := implCommonTicks_any x1 x2 t1 t2 y1 y2 s1 s2 w
  have h1 : ¬ c = 0 := by simpa using h0
  rw [hc] at h
  simpa only [if_neg h1] using h
theorem implCommonTicks_yes (x1 x2 t1 t2 y1 y2 s1 s2 : Int) (w : World) (hc : cmc x1 x2 t1 t2 y1 y2 s1 s2 = 0) :
    Calls Try.prog 35 #[.agg #[.int .i64 x1, .int .i64 x2, .int .i64 t1, .int .i64 t2], .agg #[.int .i64 y1, .int .i64 y2, .int .i64 s1, .int .i64 s2]] w fun e w' => e = .returned (.tuple #[.int .i64 (cmf t1 s1), .int .i64 (cml t2 s2), .int .i64 0]) ∧ Ext w w' := by
  have h := implCommonTicks_any x1 x2 t1 t2 y1 y2 s1 s2 w
  rw [hc] at h
  simpa only [if_true] using h
end Go.Proofs.Ytojbacaebclffaa
