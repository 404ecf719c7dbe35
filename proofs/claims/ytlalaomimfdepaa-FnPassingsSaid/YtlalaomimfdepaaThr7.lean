/- SwapJugglers and ExchangePasses by the program and the reference. No condition but the stated bounds. -/
import Derived.Test.YtlalaomimfdepaaThr6
namespace Go.Proofs.Ytlalaomimfdepaa
set_option linter.unusedVariables false
set_option linter.unusedSimpArgs false
open Go.ChangeShapes Go.WideShapes Go.ChangeAt Go.RowKit Go.Joins Go.Deep

/-- What hands back a pattern and a code. -/
def RetPC (w : World) (ts us : List (Int × Bool)) (r : Int) (e : Ending) (w' : World) : Prop :=
  ∃ A n c B m d, e = .returned (.tuple #[.agg #[.slice A n c, .slice B m d], .int .i64 r]) ∧ PassR w' w.heap.size w'.heap.size A n c B m d ts us ∧ Ext w w'
/-- The other juggler's pattern. -/
def swj (ts us : List (Int × Bool)) : List (Int × Bool) × List (Int × Bool) × Int := if vpas ts us then (us, ts, 0) else ([], [], 1)
theorem vpas_parts {ts us : List (Int × Bool)} (h : vpas ts us = true) : 1 ≤ ts.length ∧ ts.length ≤ 8 ∧ us.length = ts.length ∧ (∀ i, i < ts.length → 0 ≤ tv ts i ∧ tv ts i ≤ 15) ∧ (∀ i, i < us.length → 0 ≤ tv us i ∧ tv us i ≤ 15) := by
  unfold vpas at h
  rw [Bool.and_eq_true] at h
  exact fpas_parts h.1
theorem PassR.far {w : World} {lo hi : Nat} {A B : Option Addr} {n c m d : Nat} {ts us : List (Int × Bool)} (h : PassR w lo hi A n c B m d ts us) {p : Addr} (hp : p.block < lo ∨ hi ≤ p.block) (v : Value) : PassR (w.setCell p v) lo hi A n c B m d ts us := ⟨h.a.far hp v, h.b.far hp v, h.ne⟩
set_option maxHeartbeats 1000000 in
theorem impl_swap (A B : Option Addr) (n c m d : Nat) (ts us : List (Int × Bool)) (w : World) (hI : Thr w A n ts) (hJ : Thr w B m us) :
    Calls Try.prog 9 #[.agg #[.slice A n c, .slice B m d]] w (RetPC w (swj ts us).1 (swj ts us).2.1 (swj ts us).2.2) := by
  cases hv : vpas ts us
  · have HX : Hid (swj ts us = ([], [], 1)) := by show _ = _; simp [swj, hv]
    rw [HX.out]
    go_enter Try.func9, Try.ntmps9
    go_wp2_with fail
    (with_reducible refine (ValidPassing_any _ _ n _ m _ ts us _ (hI.ext (by with_reducible (repeat (first | exact Ext.refl _ | apply Ext.drewN | apply Ext.drew | apply Ext.alloc | (refine Ext.set ?_ (by first | (simp; done) | (simp; omega) | omega) _) | (refine Ext.trans ?_ (by assumption)))))) (hJ.ext (by with_reducible (repeat (first | exact Ext.refl _ | apply Ext.drewN | apply Ext.drew | apply Ext.alloc | (refine Ext.set ?_ (by first | (simp; done) | (simp; omega) | omega) _) | (refine Ext.trans ?_ (by assumption))))))).mono ?_)
    rw [hv]
    rintro e w1 ⟨rfl, hx1⟩
    have hz1 := hx1.size
    (try simp at hz1)
    have q0 : w.heap.size + 1 < w1.heap.size := by omega
    have k11 : ∀ o, w1.cell? ⟨w.heap.size + 1, o, none⟩ = _ := fun o => hx1.cells.1 _ o (by first | (simp [World.setCell]; done) | (simp [World.setCell]; omega) | omega)
    have f11 : ∀ o, w1.frozen? ⟨w.heap.size + 1, o, none⟩ = _ := fun o => hx1.cells.2 _ o (by first | (simp [World.setCell]; done) | (simp [World.setCell]; omega) | omega)
    have hE1 : Ext w w1 := Ext.trans (by with_reducible (repeat (first | exact Ext.refl _ | apply Ext.drewN | apply Ext.drew | apply Ext.alloc | (refine Ext.set ?_ (by first | (simp; done) | (simp; omega) | omega) _) | (refine Ext.trans ?_ (by assumption))))) hx1
    go_wp2
    exact bodyPost_ret (v := .tuple #[.agg #[.slice none 0 0, .slice none 0 0], .int .i64 1]) (by simp [results, Try.results9, go_sem, *]) rfl ⟨none, 0, 0, none, 0, 0, rfl, PassR.nil _ _ _, (by with_reducible (repeat (first | exact Ext.refl _ | apply Ext.drewN | apply Ext.drew | apply Ext.alloc | (refine Ext.set ?_ (by first | (simp; done) | (simp; omega) | omega) _) | (refine Ext.trans ?_ (by assumption)))))⟩
  · obtain ⟨g1, g2, g3, -, -⟩ := vpas_parts hv
    have l1 := hI.len
    have l2 := hJ.len
    obtain rfl : m = n := by omega
    rw [l1] at g1 g2
    clear g3
    have HX : Hid (swj ts us = (us, ts, 0)) := by show _ = _; simp [swj, hv]
    rw [HX.out]
    go_enter Try.func9, Try.ntmps9
    go_wp2_with fail
    (with_reducible refine (ValidPassing_any _ _ m _ m _ ts us _ (hI.ext (by with_reducible (repeat (first | exact Ext.refl _ | apply Ext.drewN | apply Ext.drew | apply Ext.alloc | (refine Ext.set ?_ (by first | (simp; done) | (simp; omega) | omega) _) | (refine Ext.trans ?_ (by assumption)))))) (hJ.ext (by with_reducible (repeat (first | exact Ext.refl _ | apply Ext.drewN | apply Ext.drew | apply Ext.alloc | (refine Ext.set ?_ (by first | (simp; done) | (simp; omega) | omega) _) | (refine Ext.trans ?_ (by assumption))))))).mono ?_)
    rw [hv]
    rintro e w1 ⟨rfl, hx1⟩
    have hz1 := hx1.size
    (try simp at hz1)
    have q1 : w.heap.size + 1 < w1.heap.size := by omega
    have k10 : ∀ o, w1.cell? ⟨w.heap.size, o, none⟩ = _ := fun o => hx1.cells.1 _ o (by first | (simp [World.setCell]; done) | (simp [World.setCell]; omega) | omega)
    have k11 : ∀ o, w1.cell? ⟨w.heap.size + 1, o, none⟩ = _ := fun o => hx1.cells.1 _ o (by first | (simp [World.setCell]; done) | (simp [World.setCell]; omega) | omega)
    have f11 : ∀ o, w1.frozen? ⟨w.heap.size + 1, o, none⟩ = _ := fun o => hx1.cells.2 _ o (by first | (simp [World.setCell]; done) | (simp [World.setCell]; omega) | omega)
    have hE1 : Ext w w1 := Ext.trans (by with_reducible (repeat (first | exact Ext.refl _ | apply Ext.drewN | apply Ext.drew | apply Ext.alloc | (refine Ext.set ?_ (by first | (simp; done) | (simp; omega) | omega) _) | (refine Ext.trans ?_ (by assumption))))) hx1
    clear hx1
    go_wp2_with fail
    (with_reducible refine (copied_any _ _ m _ m _ ts us _ (hI.ext hE1) (hJ.ext hE1) (by omega) (by omega)).mono ?_)
    rintro e w2 ⟨A1, c1, B1, d1, rfl, R, hx2⟩
    have HR := Lib.hid R
    clear R
    have hz2 := hx2.size
    (try simp at hz2)
    have q2 : w.heap.size + 1 < w2.heap.size := by omega
    have k21 : ∀ o, w2.cell? ⟨w.heap.size + 1, o, none⟩ = _ := fun o => hx2.cells.1 _ o (by first | (simp [World.setCell]; done) | (simp [World.setCell]; omega) | omega)
    have f21 : ∀ o, w2.frozen? ⟨w.heap.size + 1, o, none⟩ = _ := fun o => hx2.cells.2 _ o (by first | (simp [World.setCell]; done) | (simp [World.setCell]; omega) | omega)
    have hE2 : Ext w w2 := Ext.trans (by with_reducible (repeat (first | exact Ext.refl _ | apply Ext.drewN | apply Ext.drew | apply Ext.alloc | (refine Ext.set ?_ (by first | (simp; done) | (simp; omega) | omega) _) | (refine Ext.trans ?_ (by assumption))))) hx2
    clear hx2
    go_wp2
    refine bodyPost_ret (v := .tuple #[.agg #[.slice B1 m d1, .slice A1 m c1], .int .i64 0]) (by simp [results, Try.results9, go_sem, *]) rfl ⟨_, _, _, _, _, _, rfl, ?_, (by with_reducible (repeat (first | exact Ext.refl _ | apply Ext.drewN | apply Ext.drew | apply Ext.alloc | (refine Ext.set ?_ (by first | (simp; done) | (simp; omega) | omega) _) | (refine Ext.trans ?_ (by assumption)))))⟩
    have h0 : PassR w2 w1.heap.size w2.heap.size A1 m c1 B1 m d1 ts us := by simpa using HR.out
    exact (((((h0.far (p := ⟨w.heap.size + 1, 0, none⟩) (.inl (by simp; omega)) _).far (p := ⟨w.heap.size + 1, 1, none⟩) (.inl (by simp; omega)) _).ext (by with_reducible (repeat (first | exact Ext.refl _ | apply Ext.drewN | apply Ext.drew | apply Ext.alloc | (refine Ext.set ?_ (by first | (simp; done) | (simp; omega) | omega) _) | (refine Ext.trans ?_ (by assumption)))))).wide (by omega) (by simp [World.setCell])).swap)
set_option maxHeartbeats 1000000 in
theorem spec_swap (A B : Option Addr) (n c m d : Nat) (ts us : List (Int × Bool)) (w : World) (hI : Thr w A n ts) (hJ : Thr w B m us) :
    Calls Try.prog 7 #[.agg #[.slice A n c, .slice B m d]] w (RetPC w (swj ts us).1 (swj ts us).2.1 (swj ts us).2.2) := by
  cases hv : vpas ts us
  · have HX : Hid (swj ts us = ([], [], 1)) := by show _ = _; simp [swj, hv]
    rw [HX.out]
    go_enter Try.func7, Try.ntmps7
    go_wp2_with fail
    (with_reducible refine (l06Ok_any _ A B n c m d ts us _ ⟨by first | (simp; done) | (simp; omega) | omega, by go_simp, by go_simp⟩ (hI.ext (by with_reducible (repeat (first | exact Ext.refl _ | apply Ext.drewN | apply Ext.drew | apply Ext.alloc | (refine Ext.set ?_ (by first | (simp; done) | (simp; omega) | omega) _) | (refine Ext.trans ?_ (by assumption)))))) (hJ.ext (by with_reducible (repeat (first | exact Ext.refl _ | apply Ext.drewN | apply Ext.drew | apply Ext.alloc | (refine Ext.set ?_ (by first | (simp; done) | (simp; omega) | omega) _) | (refine Ext.trans ?_ (by assumption))))))).mono ?_)
    rw [hv]
    rintro e w1 ⟨rfl, hx1⟩
    have hz1 := hx1.size
    (try simp at hz1)
    have q0 : w.heap.size + 1 < w1.heap.size := by omega
    have k11 : ∀ o, w1.cell? ⟨w.heap.size + 1, o, none⟩ = _ := fun o => hx1.cells.1 _ o (by first | (simp [World.setCell]; done) | (simp [World.setCell]; omega) | omega)
    have f11 : ∀ o, w1.frozen? ⟨w.heap.size + 1, o, none⟩ = _ := fun o => hx1.cells.2 _ o (by first | (simp [World.setCell]; done) | (simp [World.setCell]; omega) | omega)
    have hE1 : Ext w w1 := Ext.trans (by with_reducible (repeat (first | exact Ext.refl _ | apply Ext.drewN | apply Ext.drew | apply Ext.alloc | (refine Ext.set ?_ (by first | (simp; done) | (simp; omega) | omega) _) | (refine Ext.trans ?_ (by assumption))))) hx1
    go_wp2
    exact bodyPost_ret (v := .tuple #[.agg #[.slice none 0 0, .slice none 0 0], .int .i64 1]) (by simp [results, Try.results7, go_sem, *]) rfl ⟨none, 0, 0, none, 0, 0, rfl, PassR.nil _ _ _, (by with_reducible (repeat (first | exact Ext.refl _ | apply Ext.drewN | apply Ext.drew | apply Ext.alloc | (refine Ext.set ?_ (by first | (simp; done) | (simp; omega) | omega) _) | (refine Ext.trans ?_ (by assumption)))))⟩
  · obtain ⟨g1, g2, g3, -, -⟩ := vpas_parts hv
    have l1 := hI.len
    have l2 := hJ.len
    obtain rfl : m = n := by omega
    rw [l1] at g1 g2
    clear g3
    have HX : Hid (swj ts us = (us, ts, 0)) := by show _ = _; simp [swj, hv]
    rw [HX.out]
    go_enter Try.func7, Try.ntmps7
    go_wp2_with fail
    (with_reducible refine (l06Ok_any _ A B m c m d ts us _ ⟨by first | (simp; done) | (simp; omega) | omega, by go_simp, by go_simp⟩ (hI.ext (by with_reducible (repeat (first | exact Ext.refl _ | apply Ext.drewN | apply Ext.drew | apply Ext.alloc | (refine Ext.set ?_ (by first | (simp; done) | (simp; omega) | omega) _) | (refine Ext.trans ?_ (by assumption)))))) (hJ.ext (by with_reducible (repeat (first | exact Ext.refl _ | apply Ext.drewN | apply Ext.drew | apply Ext.alloc | (refine Ext.set ?_ (by first | (simp; done) | (simp; omega) | omega) _) | (refine Ext.trans ?_ (by assumption))))))).mono ?_)
    rw [hv]
    rintro e w1 ⟨rfl, hx1⟩
    have hz1 := hx1.size
    (try simp at hz1)
    have q1 : w.heap.size + 1 < w1.heap.size := by omega
    have k10 : ∀ o, w1.cell? ⟨w.heap.size, o, none⟩ = _ := fun o => hx1.cells.1 _ o (by first | (simp [World.setCell]; done) | (simp [World.setCell]; omega) | omega)
    have k11 : ∀ o, w1.cell? ⟨w.heap.size + 1, o, none⟩ = _ := fun o => hx1.cells.1 _ o (by first | (simp [World.setCell]; done) | (simp [World.setCell]; omega) | omega)
    have f11 : ∀ o, w1.frozen? ⟨w.heap.size + 1, o, none⟩ = _ := fun o => hx1.cells.2 _ o (by first | (simp [World.setCell]; done) | (simp [World.setCell]; omega) | omega)
    have hE1 : Ext w w1 := Ext.trans (by with_reducible (repeat (first | exact Ext.refl _ | apply Ext.drewN | apply Ext.drew | apply Ext.alloc | (refine Ext.set ?_ (by first | (simp; done) | (simp; omega) | omega) _) | (refine Ext.trans ?_ (by assumption))))) hx1
    clear hx1
    go_wp2_with fail
    (with_reducible refine (l06Own_any _ A B m c m d ts us _ ⟨by omega, by go_simp, by go_simp⟩ (hI.ext hE1) (hJ.ext hE1) (by omega) (by omega)).mono ?_)
    rintro e w2 ⟨A1, c1, B1, d1, rfl, R, hx2⟩
    have HR := Lib.hid R
    clear R
    have hz2 := hx2.size
    (try simp at hz2)
    have q2 : w.heap.size + 1 < w2.heap.size := by omega
    have k21 : ∀ o, w2.cell? ⟨w.heap.size + 1, o, none⟩ = _ := fun o => hx2.cells.1 _ o (by first | (simp [World.setCell]; done) | (simp [World.setCell]; omega) | omega)
    have f21 : ∀ o, w2.frozen? ⟨w.heap.size + 1, o, none⟩ = _ := fun o => hx2.cells.2 _ o (by first | (simp [World.setCell]; done) | (simp [World.setCell]; omega) | omega)
    have hE2 : Ext w w2 := Ext.trans (by with_reducible (repeat (first | exact Ext.refl _ | apply Ext.drewN | apply Ext.drew | apply Ext.alloc | (refine Ext.set ?_ (by first | (simp; done) | (simp; omega) | omega) _) | (refine Ext.trans ?_ (by assumption))))) hx2
    clear hx2
    go_wp2
    refine bodyPost_ret (v := .tuple #[.agg #[.slice B1 m d1, .slice A1 m c1], .int .i64 0]) (by simp [results, Try.results7, go_sem, *]) rfl ⟨_, _, _, _, _, _, rfl, ?_, (by with_reducible (repeat (first | exact Ext.refl _ | apply Ext.drewN | apply Ext.drew | apply Ext.alloc | (refine Ext.set ?_ (by first | (simp; done) | (simp; omega) | omega) _) | (refine Ext.trans ?_ (by assumption)))))⟩
    have h0 : PassR w2 w1.heap.size w2.heap.size A1 m c1 B1 m d1 ts us := by simpa using HR.out
    exact (((((h0.far (p := ⟨w.heap.size + 1, 0, none⟩) (.inl (by simp; omega)) _).far (p := ⟨w.heap.size + 1, 1, none⟩) (.inl (by simp; omega)) _).ext (by with_reducible (repeat (first | exact Ext.refl _ | apply Ext.drewN | apply Ext.drew | apply Ext.alloc | (refine Ext.set ?_ (by first | (simp; done) | (simp; omega) | omega) _) | (refine Ext.trans ?_ (by assumption)))))).wide (by omega) (by simp [World.setCell])).swap)
end Go.Proofs.Ytlalaomimfdepaa
