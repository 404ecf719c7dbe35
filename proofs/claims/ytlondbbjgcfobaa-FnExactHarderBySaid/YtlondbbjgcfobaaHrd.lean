/- Difficulty: contracts of l20Hard, difficulty, HarderBy. No condition but the stated bounds. -/
import Derived.Test.YtlondbbjgcfobaaMea
import Derived.Test.YtlondbbjgcfobaaToI
namespace Go.Proofs.Ytlondbbjgcfobaa
set_option linter.unusedVariables false
open Go.RowKit

theorem quot_bd {a : Int} {n : Nat} (M : Int) (h : 0 ≤ a ∧ a ≤ M * n) (hn : 1 ≤ n) : 0 ≤ 1000 * a / n ∧ 1000 * a / n ≤ 1000 * M := by
  constructor
  · exact Int.ediv_nonneg (by omega) (by omega)
  · refine Int.ediv_le_of_le_mul (by omega) ?_
    rw [Int.mul_assoc]
    omega
/-- How difficult a pattern of n throws is. -/
def hrd (xs : List Int) (n : Nat) : Int := 1000 * prp xs * prp xs + 2 * (1000 * acc fWork xs n / n) + 1000 * acc (fSwing (prp xs)) xs n / n + 1000 * chg xs n / n - 2 * (1000 * acc fEmpty xs n / n) + 1000 * (hig xs n - lowg xs n)
theorem hrd_bd {xs : List Int} {n : Nat} (hn : xs.length = n) (hv : vpat xs = true) : -1000000 ≤ hrd xs n ∧ hrd xs n ≤ 1000000 := by
  obtain ⟨h1, h2, h3⟩ := thr_iff.1 (vpat_thr hv)
  rw [hn] at h1 h2 h3
  have hp := prp_bd hv
  have a1 := quot_bd 225 (acc_work_bd (xs := xs) (k := n) h1) h2
  have a2 := quot_bd 225 (acc_swing_bd (xs := xs) (m := prp xs) (k := n) hp h1) h2
  have a3 := quot_bd 1 (a := chg xs n) (n := n) (by have := chg_bd xs n; omega) h2
  have a4 := quot_bd 1 (a := acc fEmpty xs n) (n := n) (by have := acc_empty_bd xs n; omega) h2
  have a5 := hig_bd (xs := xs) (k := n) h1
  have a6 := lowg_bd (xs := xs) (k := n) (h1 0 (by omega)) h1
  have a7 := mul_bd (a := 1000 * prp xs) (b := prp xs) (A := 15000) (B := 15) (by omega) (by omega)
  unfold hrd
  omega
set_option maxHeartbeats 1000000 in
theorem l20Hard_any (A : Option Addr) (n c : Nat) (xs : List Int) (w : World) (hI : Ints w A n xs) (hv : vpat xs = true) :
    Calls Try.prog 61 #[.slice A n c] w fun e w' => e = .returned (.int .i64 (hrd xs n)) ∧ Ext w w' := by
  obtain ⟨h1, h2, h3⟩ := thr_iff.1 (vpat_thr hv)
  rw [hI.len] at h1 h2 h3
  have hp := prp_bd hv
  have a1 := quot_bd 225 (acc_work_bd (xs := xs) (k := n) h1) h2
  have a2 := quot_bd 225 (acc_swing_bd (xs := xs) (m := prp xs) (k := n) hp h1) h2
  have a3 := quot_bd 1 (a := chg xs n) (n := n) (by have := chg_bd xs n; omega) h2
  have a4 := quot_bd 1 (a := acc fEmpty xs n) (n := n) (by have := acc_empty_bd xs n; omega) h2
  have a5 := hig_bd (xs := xs) (k := n) h1
  have a6 := lowg_bd (xs := xs) (k := n) (h1 0 (by omega)) h1
  have a7 := mul_bd (a := 1000 * prp xs) (b := prp xs) (A := 15000) (B := 15) (by omega) (by omega)
  unfold hrd
  obtain ⟨vs, hs⟩ : ∃ z, 1000 * acc (fSwing (prp xs)) xs n / (n : Int) = z := ⟨_, rfl⟩
  rw [hs] at a2 ⊢
  obtain ⟨vm, hm⟩ : ∃ z, prp xs = z := ⟨_, rfl⟩
  have HS := Lib.hid hs
  rw [hm] at hp a7 ⊢
  have HM := Lib.hid hm
  obtain ⟨vw, hw⟩ : ∃ z, 1000 * acc fWork xs n / (n : Int) = z := ⟨_, rfl⟩
  rw [hw] at a1 ⊢
  have HW := Lib.hid hw
  obtain ⟨vc, hc⟩ : ∃ z, 1000 * chg xs n / (n : Int) = z := ⟨_, rfl⟩
  rw [hc] at a3 ⊢
  have HC := Lib.hid hc
  obtain ⟨ve, he⟩ : ∃ z, 1000 * acc fEmpty xs n / (n : Int) = z := ⟨_, rfl⟩
  rw [he] at a4 ⊢
  have HE := Lib.hid he
  obtain ⟨vr, hr⟩ : ∃ z, hig xs n - lowg xs n = z := ⟨_, rfl⟩
  have a8 : -15 ≤ vr ∧ vr ≤ 15 := by omega
  rw [hr]
  have HR := Lib.hid hr
  obtain ⟨vp, hpp⟩ : ∃ z, 1000 * vm * vm = z := ⟨_, rfl⟩
  rw [hpp] at a7 ⊢
  clear hs hm hw hc he hr h1 h3 a5 a6
  go_enter Try.func61, Try.ntmps61
  go_wp2_with (first | (go_at_call 69; (with_reducible refine (l02Props_any _ _ _ xs _ (hI.ext (by with_reducible (repeat (first | exact Ext.refl _ | apply Ext.drewN | apply Ext.drew | apply Ext.alloc | (refine Ext.set ?_ (by first | (simp; done) | (simp; omega) | omega) _) | (refine Ext.trans ?_ (by assumption)))))) hv).mono ?_); rw [HM.out]; rintro e w' ⟨rfl, rfl⟩) | (go_at_call 40; (with_reducible refine (l20Work_any _ _ _ xs _ (hI.ext (by with_reducible (repeat (first | exact Ext.refl _ | apply Ext.drewN | apply Ext.drew | apply Ext.alloc | (refine Ext.set ?_ (by first | (simp; done) | (simp; omega) | omega) _) | (refine Ext.trans ?_ (by assumption)))))) hv).mono ?_); rw [HW.out]; rintro e w' ⟨rfl, nn, rfl⟩) | (go_at_call 52; (with_reducible refine (l20Swing_any _ _ _ xs _ (hI.ext (by with_reducible (repeat (first | exact Ext.refl _ | apply Ext.drewN | apply Ext.drew | apply Ext.alloc | (refine Ext.set ?_ (by first | (simp; done) | (simp; omega) | omega) _) | (refine Ext.trans ?_ (by assumption)))))) hv).mono ?_); rw [HS.out]; rintro e w' ⟨rfl, nn, rfl⟩) | (go_at_call 42; (with_reducible refine (l20Changes_any _ _ _ xs _ (hI.ext (by with_reducible (repeat (first | exact Ext.refl _ | apply Ext.drewN | apply Ext.drew | apply Ext.alloc | (refine Ext.set ?_ (by first | (simp; done) | (simp; omega) | omega) _) | (refine Ext.trans ?_ (by assumption)))))) hv).mono ?_); rw [HC.out]; rintro e w' ⟨rfl, rfl⟩) | (go_at_call 37; (with_reducible refine (l20Empty_any _ _ _ xs _ (hI.ext (by with_reducible (repeat (first | exact Ext.refl _ | apply Ext.drewN | apply Ext.drew | apply Ext.alloc | (refine Ext.set ?_ (by first | (simp; done) | (simp; omega) | omega) _) | (refine Ext.trans ?_ (by assumption)))))) hv).mono ?_); rw [HE.out]; rintro e w' ⟨rfl, rfl⟩) | (go_at_call 54; (with_reducible refine (l20Range_any _ _ _ xs _ (hI.ext (by with_reducible (repeat (first | exact Ext.refl _ | apply Ext.drewN | apply Ext.drew | apply Ext.alloc | (refine Ext.set ?_ (by first | (simp; done) | (simp; omega) | omega) _) | (refine Ext.trans ?_ (by assumption)))))) hv).mono ?_); rw [HR.out]; rintro e w' ⟨rfl, rfl⟩))
  go_ret
  exact ⟨rfl, (by with_reducible (repeat (first | exact Ext.refl _ | apply Ext.drewN | apply Ext.drew | apply Ext.alloc | (refine Ext.set ?_ (by first | (simp; done) | (simp; omega) | omega) _) | (refine Ext.trans ?_ (by assumption)))))⟩
set_option maxHeartbeats 1000000 in
theorem difficulty_any (A : Option Addr) (n c : Nat) (xs : List Int) (w : World) (hI : Ints w A n xs) (hv : vpat xs = true) :
    Calls Try.prog 62 #[.slice A n c] w fun e w' => e = .returned (.int .i64 (hrd xs n)) ∧ Ext w w' := by
  obtain ⟨h1, h2, h3⟩ := thr_iff.1 (vpat_thr hv)
  rw [hI.len] at h1 h2 h3
  have hp := prp_bd hv
  have a1 := quot_bd 225 (acc_work_bd (xs := xs) (k := n) h1) h2
  have a2 := quot_bd 225 (acc_swing_bd (xs := xs) (m := prp xs) (k := n) hp h1) h2
  have a3 := quot_bd 1 (a := chg xs n) (n := n) (by have := chg_bd xs n; omega) h2
  have a4 := quot_bd 1 (a := acc fEmpty xs n) (n := n) (by have := acc_empty_bd xs n; omega) h2
  have a5 := hig_bd (xs := xs) (k := n) h1
  have a6 := lowg_bd (xs := xs) (k := n) (h1 0 (by omega)) h1
  have a7 := mul_bd (a := 1000 * prp xs) (b := prp xs) (A := 15000) (B := 15) (by omega) (by omega)
  unfold hrd
  obtain ⟨vs, hs⟩ : ∃ z, 1000 * acc (fSwing (prp xs)) xs n / (n : Int) = z := ⟨_, rfl⟩
  rw [hs] at a2 ⊢
  obtain ⟨vm, hm⟩ : ∃ z, prp xs = z := ⟨_, rfl⟩
  have HS := Lib.hid hs
  rw [hm] at hp a7 ⊢
  have HM := Lib.hid hm
  obtain ⟨vw, hw⟩ : ∃ z, 1000 * acc fWork xs n / (n : Int) = z := ⟨_, rfl⟩
  rw [hw] at a1 ⊢
  have HW := Lib.hid hw
  obtain ⟨vc, hc⟩ : ∃ z, 1000 * chg xs n / (n : Int) = z := ⟨_, rfl⟩
  rw [hc] at a3 ⊢
  have HC := Lib.hid hc
  obtain ⟨ve, he⟩ : ∃ z, 1000 * acc fEmpty xs n / (n : Int) = z := ⟨_, rfl⟩
  rw [he] at a4 ⊢
  have HE := Lib.hid he
  obtain ⟨vr, hr⟩ : ∃ z, hig xs n - lowg xs n = z := ⟨_, rfl⟩
  have a8 : -15 ≤ vr ∧ vr ≤ 15 := by omega
  rw [hr]
  have HR := Lib.hid hr
  obtain ⟨vp, hpp⟩ : ∃ z, 1000 * vm * vm = z := ⟨_, rfl⟩
  rw [hpp] at a7 ⊢
  clear hs hm hw hc he hr h1 h3 a5 a6
  go_enter Try.func62, Try.ntmps62
  go_wp2_with (first | (go_at_call 70; (with_reducible refine (propsOf_is _ _ _ xs _ (hI.ext (by with_reducible (repeat (first | exact Ext.refl _ | apply Ext.drewN | apply Ext.drew | apply Ext.alloc | (refine Ext.set ?_ (by first | (simp; done) | (simp; omega) | omega) _) | (refine Ext.trans ?_ (by assumption)))))) hv).mono ?_); rw [HM.out]; rintro e w' ⟨rfl, rfl⟩) | (go_at_call 41; (with_reducible refine (work_any _ _ _ xs _ (hI.ext (by with_reducible (repeat (first | exact Ext.refl _ | apply Ext.drewN | apply Ext.drew | apply Ext.alloc | (refine Ext.set ?_ (by first | (simp; done) | (simp; omega) | omega) _) | (refine Ext.trans ?_ (by assumption)))))) hv).mono ?_); rw [HW.out]; rintro e w' ⟨rfl, rfl⟩) | (go_at_call 53; (with_reducible refine (swing_any _ _ _ xs _ (hI.ext (by with_reducible (repeat (first | exact Ext.refl _ | apply Ext.drewN | apply Ext.drew | apply Ext.alloc | (refine Ext.set ?_ (by first | (simp; done) | (simp; omega) | omega) _) | (refine Ext.trans ?_ (by assumption)))))) hv).mono ?_); rw [HS.out]; rintro e w' ⟨rfl, rfl⟩) | (go_at_call 43; (with_reducible refine (changes_any _ _ _ xs _ (hI.ext (by with_reducible (repeat (first | exact Ext.refl _ | apply Ext.drewN | apply Ext.drew | apply Ext.alloc | (refine Ext.set ?_ (by first | (simp; done) | (simp; omega) | omega) _) | (refine Ext.trans ?_ (by assumption)))))) hv).mono ?_); rw [HC.out]; rintro e w' ⟨rfl, rfl⟩) | (go_at_call 39; (with_reducible refine (empty_any _ _ _ xs _ (hI.ext (by with_reducible (repeat (first | exact Ext.refl _ | apply Ext.drewN | apply Ext.drew | apply Ext.alloc | (refine Ext.set ?_ (by first | (simp; done) | (simp; omega) | omega) _) | (refine Ext.trans ?_ (by assumption)))))) hv).mono ?_); rw [HE.out]; rintro e w' ⟨rfl, rfl⟩) | (go_at_call 55; (with_reducible refine (spread_any _ _ _ xs _ (hI.ext (by with_reducible (repeat (first | exact Ext.refl _ | apply Ext.drewN | apply Ext.drew | apply Ext.alloc | (refine Ext.set ?_ (by first | (simp; done) | (simp; omega) | omega) _) | (refine Ext.trans ?_ (by assumption)))))) hv).mono ?_); rw [HR.out]; rintro e w' ⟨rfl, rfl⟩))
  go_ret
  exact ⟨rfl, (by with_reducible (repeat (first | exact Ext.refl _ | apply Ext.drewN | apply Ext.drew | apply Ext.alloc | (refine Ext.set ?_ (by first | (simp; done) | (simp; omega) | omega) _) | (refine Ext.trans ?_ (by assumption)))))⟩
theorem specHarderBy_no (A B : Option Addr) (n m c d : Nat) (xs ys : List Int) (w : World) (hI : Ints w A n xs) (hJ : Ints w B m ys) (h : (vpat xs && vpat ys) = false) :
    Calls Try.prog 34 #[.slice A n c, .slice B m d] w fun e w' => e = .returned (.tuple #[.int .i64 0, .int .i64 1]) ∧ Ext w w' := by
  cases hv : vpat xs
  · clear h
    go_enter Try.func34, Try.ntmps34
    go_wp2_with (first | (go_at_call 36; (with_reducible refine (l02Ok_is _ _ _ xs _ hv _ (hI.ext (by with_reducible (repeat (first | exact Ext.refl _ | apply Ext.drewN | apply Ext.drew | apply Ext.alloc | (refine Ext.set ?_ (by first | (simp; done) | (simp; omega) | omega) _) | (refine Ext.trans ?_ (by assumption))))))).mono ?_); rintro e w' ⟨rfl, n, rfl⟩))
    go_ret2
    exact ⟨rfl, (by with_reducible (repeat (first | exact Ext.refl _ | apply Ext.drewN | apply Ext.drew | apply Ext.alloc | (refine Ext.set ?_ (by first | (simp; done) | (simp; omega) | omega) _) | (refine Ext.trans ?_ (by assumption)))))⟩
  · have hu : vpat ys = false := by rw [hv] at h; simpa using h
    clear h
    go_enter Try.func34, Try.ntmps34
    go_wp2_with fail
    (with_reducible refine (l02Ok_is _ _ _ xs _ hv _ (hI.ext (by with_reducible (repeat (first | exact Ext.refl _ | apply Ext.drewN | apply Ext.drew | apply Ext.alloc | (refine Ext.set ?_ (by first | (simp; done) | (simp; omega) | omega) _) | (refine Ext.trans ?_ (by assumption))))))).mono ?_)
    rintro e w1 ⟨rfl, hq1⟩
    have hx1 : Ext w w1 := (Ext.refl w).qt hq1
    go_wp2_with fail
    (with_reducible refine (l02Ok_is _ _ _ ys _ hu _ (hJ.ext (by with_reducible (repeat (first | exact Ext.refl _ | apply Ext.drewN | apply Ext.drew | apply Ext.alloc | (refine Ext.set ?_ (by first | (simp; done) | (simp; omega) | omega) _) | (refine Ext.trans ?_ (by assumption))))))).mono ?_)
    rintro e w2 ⟨rfl, hq2⟩
    have hx2 : Ext w1 w2 := (Ext.refl w1).qt hq2
    go_wp2
    go_ret2
    exact ⟨rfl, (by with_reducible (repeat (first | exact Ext.refl _ | apply Ext.drewN | apply Ext.drew | apply Ext.alloc | (refine Ext.set ?_ (by first | (simp; done) | (simp; omega) | omega) _) | (refine Ext.trans ?_ (by assumption)))))⟩
theorem specHarderBy_yes (A B : Option Addr) (n m c d : Nat) (xs ys : List Int) (w : World) (hI : Ints w A n xs) (hJ : Ints w B m ys) (h : (vpat xs && vpat ys) = true) :
    Calls Try.prog 34 #[.slice A n c, .slice B m d] w fun e w' => e = .returned (.tuple #[.int .i64 (hrd xs n - hrd ys m), .int .i64 0]) ∧ Ext w w' := by
  rw [Bool.and_eq_true] at h
  obtain ⟨hv, hu⟩ := h
  have b1 := hrd_bd hI.len hv
  have b2 := hrd_bd hJ.len hu
  go_enter Try.func34, Try.ntmps34
  go_wp2_with fail
  (with_reducible refine (l02Ok_is _ _ _ xs _ hv _ (hI.ext (by with_reducible (repeat (first | exact Ext.refl _ | apply Ext.drewN | apply Ext.drew | apply Ext.alloc | (refine Ext.set ?_ (by first | (simp; done) | (simp; omega) | omega) _) | (refine Ext.trans ?_ (by assumption))))))).mono ?_)
  rintro e w1 ⟨rfl, hq1⟩
  have hx1 : Ext w w1 := (Ext.refl w).qt hq1
  go_wp2_with fail
  (with_reducible refine (l02Ok_is _ _ _ ys _ hu _ (hJ.ext (by with_reducible (repeat (first | exact Ext.refl _ | apply Ext.drewN | apply Ext.drew | apply Ext.alloc | (refine Ext.set ?_ (by first | (simp; done) | (simp; omega) | omega) _) | (refine Ext.trans ?_ (by assumption))))))).mono ?_)
  rintro e w2 ⟨rfl, hq2⟩
  have hx2 : Ext w1 w2 := (Ext.refl w1).qt hq2
  go_wp2_with fail
  (with_reducible refine (l20Hard_any _ _ _ xs _ (hI.ext (by with_reducible (repeat (first | exact Ext.refl _ | apply Ext.drewN | apply Ext.drew | apply Ext.alloc | (refine Ext.set ?_ (by first | (simp; done) | (simp; omega) | omega) _) | (refine Ext.trans ?_ (by assumption)))))) hv).mono ?_)
  rintro e w3 ⟨rfl, hx3⟩
  go_wp2_with fail
  (with_reducible refine (l20Hard_any _ _ _ ys _ (hJ.ext (by with_reducible (repeat (first | exact Ext.refl _ | apply Ext.drewN | apply Ext.drew | apply Ext.alloc | (refine Ext.set ?_ (by first | (simp; done) | (simp; omega) | omega) _) | (refine Ext.trans ?_ (by assumption)))))) hu).mono ?_)
  rintro e w4 ⟨rfl, hx4⟩
  go_wp2
  go_ret2
  exact ⟨rfl, (by with_reducible (repeat (first | exact Ext.refl _ | apply Ext.drewN | apply Ext.drew | apply Ext.alloc | (refine Ext.set ?_ (by first | (simp; done) | (simp; omega) | omega) _) | (refine Ext.trans ?_ (by assumption)))))⟩
theorem implHarderBy_no (A B : Option Addr) (n m c d : Nat) (xs ys : List Int) (w : World) (hI : Ints w A n xs) (hJ : Ints w B m ys) (h : (vpat xs && vpat ys) = false) :
    Calls Try.prog 35 #[.slice A n c, .slice B m d] w fun e w' => e = .returned (.tuple #[.int .i64 0, .int .i64 1]) ∧ Ext w w' := by
  cases hv : vpat xs
  · clear h
    go_enter Try.func35, Try.ntmps35
    go_wp2_with (first | (go_at_call 46; (with_reducible refine (ValidPattern_is _ _ _ xs _ hv _ (hI.ext (by with_reducible (repeat (first | exact Ext.refl _ | apply Ext.drewN | apply Ext.drew | apply Ext.alloc | (refine Ext.set ?_ (by first | (simp; done) | (simp; omega) | omega) _) | (refine Ext.trans ?_ (by assumption))))))).mono ?_); rintro e w1 ⟨rfl, hx⟩; have hz := hx.size; (try simp at hz); (try (have hq0 : w.heap.size < w1.heap.size := by omega)); (try (have hc0 : ∀ o, w1.cell? ⟨w.heap.size, o, none⟩ = _ := fun o => hx.cells.1 _ o (by first | (simp; done) | (simp; omega) | omega))); (try (have hf0 : ∀ o, w1.frozen? ⟨w.heap.size, o, none⟩ = _ := fun o => hx.cells.2 _ o (by first | (simp; done) | (simp; omega) | omega))); (try (have hq1 : w.heap.size + 1 < w1.heap.size := by omega)); (try (have hc1 : ∀ o, w1.cell? ⟨w.heap.size + 1, o, none⟩ = _ := fun o => hx.cells.1 _ o (by first | (simp; done) | (simp; omega) | omega))); (try (have hf1 : ∀ o, w1.frozen? ⟨w.heap.size + 1, o, none⟩ = _ := fun o => hx.cells.2 _ o (by first | (simp; done) | (simp; omega) | omega))); (try (have hq2 : w.heap.size + 2 < w1.heap.size := by omega)); (try (have hc2 : ∀ o, w1.cell? ⟨w.heap.size + 2, o, none⟩ = _ := fun o => hx.cells.1 _ o (by first | (simp; done) | (simp; omega) | omega))); (try (have hf2 : ∀ o, w1.frozen? ⟨w.heap.size + 2, o, none⟩ = _ := fun o => hx.cells.2 _ o (by first | (simp; done) | (simp; omega) | omega)))))
    go_ret2
    exact ⟨rfl, (by with_reducible (repeat (first | exact Ext.refl _ | apply Ext.drewN | apply Ext.drew | apply Ext.alloc | (refine Ext.set ?_ (by first | (simp; done) | (simp; omega) | omega) _) | (refine Ext.trans ?_ (by assumption)))))⟩
  · have hu : vpat ys = false := by rw [hv] at h; simpa using h
    clear h
    go_enter Try.func35, Try.ntmps35
    go_wp2_with fail
    (with_reducible refine (ValidPattern_is _ _ _ xs _ hv _ (hI.ext (by with_reducible (repeat (first | exact Ext.refl _ | apply Ext.drewN | apply Ext.drew | apply Ext.alloc | (refine Ext.set ?_ (by first | (simp; done) | (simp; omega) | omega) _) | (refine Ext.trans ?_ (by assumption))))))).mono ?_)
    rintro e w1 ⟨rfl, hq1⟩
    have hx1 : Ext w w1 := hq1
    go_wp2_with fail
    (with_reducible refine (ValidPattern_is _ _ _ ys _ hu _ (hJ.ext (by with_reducible (repeat (first | exact Ext.refl _ | apply Ext.drewN | apply Ext.drew | apply Ext.alloc | (refine Ext.set ?_ (by first | (simp; done) | (simp; omega) | omega) _) | (refine Ext.trans ?_ (by assumption))))))).mono ?_)
    rintro e w2 ⟨rfl, hq2⟩
    have hx2 : Ext w1 w2 := hq2
    go_wp2
    go_ret2
    exact ⟨rfl, (by with_reducible (repeat (first | exact Ext.refl _ | apply Ext.drewN | apply Ext.drew | apply Ext.alloc | (refine Ext.set ?_ (by first | (simp; done) | (simp; omega) | omega) _) | (refine Ext.trans ?_ (by assumption)))))⟩
theorem implHarderBy_yes (A B : Option Addr) (n m c d : Nat) (xs ys : List Int) (w : World) (hI : Ints w A n xs) (hJ : Ints w B m ys) (h : (vpat xs && vpat ys) = true) :
    Calls Try.prog 35 #[.slice A n c, .slice B m d] w fun e w' => e = .returned (.tuple #[.int .i64 (hrd xs n - hrd ys m), .int .i64 0]) ∧ Ext w w' := by
  rw [Bool.and_eq_true] at h
  obtain ⟨hv, hu⟩ := h
  have b1 := hrd_bd hI.len hv
  have b2 := hrd_bd hJ.len hu
  go_enter Try.func35, Try.ntmps35
  go_wp2_with fail
  (with_reducible refine (ValidPattern_is _ _ _ xs _ hv _ (hI.ext (by with_reducible (repeat (first | exact Ext.refl _ | apply Ext.drewN | apply Ext.drew | apply Ext.alloc | (refine Ext.set ?_ (by first | (simp; done) | (simp; omega) | omega) _) | (refine Ext.trans ?_ (by assumption))))))).mono ?_)
  rintro e w1 ⟨rfl, hq1⟩
  have hx1 : Ext w w1 := hq1
  go_wp2_with fail
  (with_reducible refine (ValidPattern_is _ _ _ ys _ hu _ (hJ.ext (by with_reducible (repeat (first | exact Ext.refl _ | apply Ext.drewN | apply Ext.drew | apply Ext.alloc | (refine Ext.set ?_ (by first | (simp; done) | (simp; omega) | omega) _) | (refine Ext.trans ?_ (by assumption))))))).mono ?_)
  rintro e w2 ⟨rfl, hq2⟩
  have hx2 : Ext w1 w2 := hq2
  go_wp2_with fail
  (with_reducible refine (difficulty_any _ _ _ xs _ (hI.ext (by with_reducible (repeat (first | exact Ext.refl _ | apply Ext.drewN | apply Ext.drew | apply Ext.alloc | (refine Ext.set ?_ (by first | (simp; done) | (simp; omega) | omega) _) | (refine Ext.trans ?_ (by assumption)))))) hv).mono ?_)
  rintro e w3 ⟨rfl, hx3⟩
  go_wp2_with fail
  (with_reducible refine (difficulty_any _ _ _ ys _ (hJ.ext (by with_reducible (repeat (first | exact Ext.refl _ | apply Ext.drewN | apply Ext.drew | apply Ext.alloc | (refine Ext.set ?_ (by first | (simp; done) | (simp; omega) | omega) _) | (refine Ext.trans ?_ (by assumption)))))) hu).mono ?_)
  rintro e w4 ⟨rfl, hx4⟩
  go_wp2
  go_ret2
  exact ⟨rfl, (by with_reducible (repeat (first | exact Ext.refl _ | apply Ext.drewN | apply Ext.drew | apply Ext.alloc | (refine Ext.set ?_ (by first | (simp; done) | (simp; omega) | omega) _) | (refine Ext.trans ?_ (by assumption)))))⟩
end Go.Proofs.Ytlondbbjgcfobaa
