/- How many throws go to another hand: contracts of CrossingsOf. No condition but the stated bounds. -/
import Derived.Test.YtdmjmnkcnohhlaaHth
namespace Go.Proofs.Ytdmjmnkcnohhlaa
set_option linter.unusedVariables false
set_option linter.unusedSimpArgs false
open Go.RowKit

/-- Out of the first k throws: how many go to another hand. -/
def crx (ys : List Int) : Nat → Int
  | 0 => 0
  | k + 1 => crx ys k + if ys[k * 4 + 2]?.getD 0 = ys[k * 4 + 3]?.getD 0 then 0 else 1
theorem crx_bd (ys : List Int) (k : Nat) : 0 ≤ crx ys k ∧ crx ys k ≤ k := by
  induction k with
  | zero => simp [crx]
  | succ k ih => simp only [crx]; split <;> omega
/-- What CrossingsOf gives. -/
def crv (ps os : List Int) : Int := if hcd ps os = 0 then crx (htr ps os (cmp_ ps.length os.length)) (tcn ps (cmp_ ps.length os.length)) else 0
set_option maxHeartbeats 2000000 in
theorem specCrossingsOf_yes (A : Option Addr) (n c : Nat) (ps : List Int) (B : Option Addr) (m d : Nat) (os : List Int) (w : World) (hI : Ints w A n ps) (hJ : Ints w B m os) (hr : hcd ps os = 0) :
    Calls Try.prog 21 #[.slice A n c, .slice B m d] w fun e w' => e = .returned (.tuple #[.int .i64 (crx (htr ps os (cmp_ n m)) (tcn ps (cmp_ n m))), .int .i64 0]) ∧ Ext w w' := by
  obtain ⟨hv, ho⟩ := hcd_zero hr
  have hcb := cmp_bd (thr_iff.1 (vpat_thr hv)).2 (vhd_iff ho).1
  rw [hI.len, hJ.len] at hcb
  have HC := Lib.hid hr
  have HV := Lib.hid hv
  have HO := Lib.hid ho
  have hBD := Lib.hid (htr_bd hv ho (cmp_ n m))
  have hN := tcn_le ps (cmp_ n m)
  clear hr hv ho
  generalize hys : htr ps os (cmp_ n m) = ys at *
  generalize hNN : tcn ps (cmp_ n m) = N at *
  have HYS := Lib.hid hys
  have HNN := Lib.hid hNN
  clear hys hNN
  go_enter Try.func21, Try.ntmps21
  go_wp2_with (first | (go_at_call 31; (with_reducible refine (l14Code_is _ _ _ _ _ _ ps os _ (hI.ext (by with_reducible (repeat (first | exact Ext.refl _ | apply Ext.drewN | apply Ext.drew | apply Ext.alloc | (refine Ext.set ?_ (by first | (simp; done) | (simp; omega) | omega) _) | (refine Ext.trans ?_ (by assumption)))))) (hJ.ext (by with_reducible (repeat (first | exact Ext.refl _ | apply Ext.drewN | apply Ext.drew | apply Ext.alloc | (refine Ext.set ?_ (by first | (simp; done) | (simp; omega) | omega) _) | (refine Ext.trans ?_ (by assumption)))))) 0 HC).mono ?_); rintro e w1 ⟨rfl, hx⟩; have hz := hx.size; (try simp at hz); (try (have hq0 : w.heap.size < w1.heap.size := by omega)); (try (have hc0 : ∀ o, w1.cell? ⟨w.heap.size, o, none⟩ = _ := fun o => hx.cells.1 _ o (by first | (simp; done) | (simp; omega) | omega))); (try (have hf0 : ∀ o, w1.frozen? ⟨w.heap.size, o, none⟩ = _ := fun o => hx.cells.2 _ o (by first | (simp; done) | (simp; omega) | omega))); (try (have hq1 : w.heap.size + 1 < w1.heap.size := by omega)); (try (have hc1 : ∀ o, w1.cell? ⟨w.heap.size + 1, o, none⟩ = _ := fun o => hx.cells.1 _ o (by first | (simp; done) | (simp; omega) | omega))); (try (have hf1 : ∀ o, w1.frozen? ⟨w.heap.size + 1, o, none⟩ = _ := fun o => hx.cells.2 _ o (by first | (simp; done) | (simp; omega) | omega))); (try (have hq2 : w.heap.size + 2 < w1.heap.size := by omega)); (try (have hc2 : ∀ o, w1.cell? ⟨w.heap.size + 2, o, none⟩ = _ := fun o => hx.cells.1 _ o (by first | (simp; done) | (simp; omega) | omega))); (try (have hf2 : ∀ o, w1.frozen? ⟨w.heap.size + 2, o, none⟩ = _ := fun o => hx.cells.2 _ o (by first | (simp; done) | (simp; omega) | omega)))) | (go_at_call 33; (with_reducible refine (l14Throws_any _ _ n _ m _ ps os _ (hI.ext (by with_reducible (repeat (first | exact Ext.refl _ | apply Ext.drewN | apply Ext.drew | apply Ext.alloc | (refine Ext.set ?_ (by first | (simp; done) | (simp; omega) | omega) _) | (refine Ext.trans ?_ (by assumption)))))) (hJ.ext (by with_reducible (repeat (first | exact Ext.refl _ | apply Ext.drewN | apply Ext.drew | apply Ext.alloc | (refine Ext.set ?_ (by first | (simp; done) | (simp; omega) | omega) _) | (refine Ext.trans ?_ (by assumption)))))) HV.out HO.out).mono ?_); rw [HYS.out, HNN.out]; rintro e w2 ⟨A1, c1, rfl, ho⟩))
  have hJ2 := ho.row.ints (by omega) (fun y hy => by have := hBD.out y hy; omega)
  have hxw : Ext w w2 := Ext.trans (by with_reducible (repeat (first | exact Ext.refl _ | apply Ext.drewN | apply Ext.drew | apply Ext.alloc | (refine Ext.set ?_ (by first | (simp; done) | (simp; omega) | omega) _) | (refine Ext.trans ?_ (by assumption))))) ho.ext
  have hYB := Lib.hid hJ2.getD_bd
  go_loopw [8, 9] (fun s i wr => ∃ k : Nat, k ≤ N ∧ i = .int .i64 k ∧ s = .int .i64 (crx ys k) ∧ Ext w2 wr) (fun _ i _ => N - (intOf i).toNat)
  case atStart => exact ⟨0, Nat.zero_le _, rfl, rfl, Ext.refl _⟩
  case round =>
    obtain ⟨k, hk, rfl, rfl, hx2⟩ := hrel
    have hcx := crx_bd ys k
    by_cases hlt : k < N
    · obtain ⟨b, off, hA, hb, hcell⟩ := (hJ2.ext hx2).at_ (by omega)
      subst hA
      have ik : (k : Int) < N := by omega
      have hc2 := hcell (k * 4 + 2) (by omega)
      (try rw [← Nat.add_assoc] at hc2)
      have hc3 := hcell (k * 4 + 3) (by omega)
      (try rw [← Nat.add_assoc] at hc3)
      clear hcell
      by_cases h0 : ys[k * 4 + 2]?.getD 0 = ys[k * 4 + 3]?.getD 0
      · have HS : Hid (crx ys (k + 1) = crx ys k) := by show _ = _; simp only [crx]; rw [if_pos h0]; omega
        generalize ys[k * 4 + 2]?.getD 0 = u at *
        generalize ys[k * 4 + 3]?.getD 0 = v at *
        subst h0
        go_wp2
        go_quiet (fail)
        go_wp2
        go_roundw
        case rel => exact ⟨k + 1, by omega, by go_num, by rw [HS.out], (by with_reducible (repeat (first | exact Ext.refl _ | apply Ext.drewN | apply Ext.drew | apply Ext.alloc | (refine Ext.set ?_ (by first | (simp; done) | (simp; omega) | omega) _) | (refine Ext.trans ?_ (by assumption)))))⟩
        case measure => simp [intOf]; omega
      · have HS : Hid (crx ys (k + 1) = crx ys k + 1) := by show _ = _; simp only [crx]; rw [if_neg h0]
        have hne : (ys[k * 4 + 2]?.getD 0 != ys[k * 4 + 3]?.getD 0) = true := by simpa using h0
        have hne2 : (ys[k * 4 + 2]?.getD 0 == ys[k * 4 + 3]?.getD 0) = false := by simpa using h0
        clear h0
        generalize ys[k * 4 + 2]?.getD 0 = u at *
        generalize ys[k * 4 + 3]?.getD 0 = v at *
        go_wp2
        go_quiet (fail)
        go_wp2
        go_roundw
        case rel => exact ⟨k + 1, by omega, by go_num, by rw [HS.out], (by with_reducible (repeat (first | exact Ext.refl _ | apply Ext.drewN | apply Ext.drew | apply Ext.alloc | (refine Ext.set ?_ (by first | (simp; done) | (simp; omega) | omega) _) | (refine Ext.trans ?_ (by assumption)))))⟩
        case measure => simp [intOf]; omega
    · obtain rfl : k = N := by omega
      go_wp2
      go_ret2
      exact ⟨rfl, (by with_reducible (repeat (first | exact Ext.refl _ | apply Ext.drewN | apply Ext.drew | apply Ext.alloc | (refine Ext.set ?_ (by first | (simp; done) | (simp; omega) | omega) _) | (refine Ext.trans ?_ (by assumption)))))⟩
theorem specCrossingsOf_ret (A : Option Addr) (n c : Nat) (ps : List Int) (B : Option Addr) (m d : Nat) (os : List Int) (w : World) (hI : Ints w A n ps) (hJ : Ints w B m os) :
    Calls Try.prog 21 #[.slice A n c, .slice B m d] w fun e w' => e = .returned (.tuple #[.int .i64 (crv ps os), .int .i64 (hcd ps os)]) ∧ Ext w w' := by
  unfold crv
  by_cases hr : hcd ps os = 0
  · rw [if_pos hr, hr, hI.len, hJ.len]
    exact specCrossingsOf_yes A n c ps B m d os w hI hJ hr
  · rw [if_neg hr]
    have h0 : (hcd ps os != 0) = true := by simpa using hr
    obtain ⟨r, hr⟩ : ∃ r, hcd ps os = r := ⟨_, rfl⟩
    rw [hr] at h0 ⊢
    have HC := Lib.hid hr
    clear hr
    go_enter Try.func21, Try.ntmps21
    go_wp2_with (first | (go_at_call 31; (with_reducible refine (l14Code_is _ _ _ _ _ _ ps os _ (hI.ext (by with_reducible (repeat (first | exact Ext.refl _ | apply Ext.drewN | apply Ext.drew | apply Ext.alloc | (refine Ext.set ?_ (by first | (simp; done) | (simp; omega) | omega) _) | (refine Ext.trans ?_ (by assumption)))))) (hJ.ext (by with_reducible (repeat (first | exact Ext.refl _ | apply Ext.drewN | apply Ext.drew | apply Ext.alloc | (refine Ext.set ?_ (by first | (simp; done) | (simp; omega) | omega) _) | (refine Ext.trans ?_ (by assumption)))))) r HC).mono ?_); rintro e w1 ⟨rfl, hx⟩; have hz := hx.size; (try simp at hz); (try (have hq0 : w.heap.size < w1.heap.size := by omega)); (try (have hc0 : ∀ o, w1.cell? ⟨w.heap.size, o, none⟩ = _ := fun o => hx.cells.1 _ o (by first | (simp; done) | (simp; omega) | omega))); (try (have hf0 : ∀ o, w1.frozen? ⟨w.heap.size, o, none⟩ = _ := fun o => hx.cells.2 _ o (by first | (simp; done) | (simp; omega) | omega))); (try (have hq1 : w.heap.size + 1 < w1.heap.size := by omega)); (try (have hc1 : ∀ o, w1.cell? ⟨w.heap.size + 1, o, none⟩ = _ := fun o => hx.cells.1 _ o (by first | (simp; done) | (simp; omega) | omega))); (try (have hf1 : ∀ o, w1.frozen? ⟨w.heap.size + 1, o, none⟩ = _ := fun o => hx.cells.2 _ o (by first | (simp; done) | (simp; omega) | omega))); (try (have hq2 : w.heap.size + 2 < w1.heap.size := by omega)); (try (have hc2 : ∀ o, w1.cell? ⟨w.heap.size + 2, o, none⟩ = _ := fun o => hx.cells.1 _ o (by first | (simp; done) | (simp; omega) | omega))); (try (have hf2 : ∀ o, w1.frozen? ⟨w.heap.size + 2, o, none⟩ = _ := fun o => hx.cells.2 _ o (by first | (simp; done) | (simp; omega) | omega)))))
    go_ret2
    exact ⟨rfl, (by with_reducible (repeat (first | exact Ext.refl _ | apply Ext.drewN | apply Ext.drew | apply Ext.alloc | (refine Ext.set ?_ (by first | (simp; done) | (simp; omega) | omega) _) | (refine Ext.trans ?_ (by assumption)))))⟩
set_option maxHeartbeats 2000000 in
theorem implCrossingsOf_yes (A : Option Addr) (n c : Nat) (ps : List Int) (B : Option Addr) (m d : Nat) (os : List Int) (w : World) (hI : Ints w A n ps) (hJ : Ints w B m os) (hr : hcd ps os = 0) :
    Calls Try.prog 20 #[.slice A n c, .slice B m d] w fun e w' => e = .returned (.tuple #[.int .i64 (crx (htr ps os (cmp_ n m)) (tcn ps (cmp_ n m))), .int .i64 0]) ∧ Ext w w' := by
  obtain ⟨hv, ho⟩ := hcd_zero hr
  have hcb := cmp_bd (thr_iff.1 (vpat_thr hv)).2 (vhd_iff ho).1
  rw [hI.len, hJ.len] at hcb
  have HC := Lib.hid hr
  have HV := Lib.hid hv
  have HO := Lib.hid ho
  have hBD := Lib.hid (htr_bd hv ho (cmp_ n m))
  have hN := tcn_le ps (cmp_ n m)
  clear hr hv ho
  generalize hys : htr ps os (cmp_ n m) = ys at *
  generalize hNN : tcn ps (cmp_ n m) = N at *
  have HYS := Lib.hid hys
  have HNN := Lib.hid hNN
  clear hys hNN
  go_enter Try.func20, Try.ntmps20
  go_wp2_with (first | (go_at_call 28; (with_reducible refine (areHanded_yes _ _ _ _ _ _ ps os _ (hI.ext (by with_reducible (repeat (first | exact Ext.refl _ | apply Ext.drewN | apply Ext.drew | apply Ext.alloc | (refine Ext.set ?_ (by first | (simp; done) | (simp; omega) | omega) _) | (refine Ext.trans ?_ (by assumption)))))) (hJ.ext (by with_reducible (repeat (first | exact Ext.refl _ | apply Ext.drewN | apply Ext.drew | apply Ext.alloc | (refine Ext.set ?_ (by first | (simp; done) | (simp; omega) | omega) _) | (refine Ext.trans ?_ (by assumption)))))) HC.out).mono ?_); rintro e w1 ⟨rfl, hx⟩; have hz := hx.size; (try simp at hz); (try (have hq0 : w.heap.size < w1.heap.size := by omega)); (try (have hc0 : ∀ o, w1.cell? ⟨w.heap.size, o, none⟩ = _ := fun o => hx.cells.1 _ o (by first | (simp; done) | (simp; omega) | omega))); (try (have hf0 : ∀ o, w1.frozen? ⟨w.heap.size, o, none⟩ = _ := fun o => hx.cells.2 _ o (by first | (simp; done) | (simp; omega) | omega))); (try (have hq1 : w.heap.size + 1 < w1.heap.size := by omega)); (try (have hc1 : ∀ o, w1.cell? ⟨w.heap.size + 1, o, none⟩ = _ := fun o => hx.cells.1 _ o (by first | (simp; done) | (simp; omega) | omega))); (try (have hf1 : ∀ o, w1.frozen? ⟨w.heap.size + 1, o, none⟩ = _ := fun o => hx.cells.2 _ o (by first | (simp; done) | (simp; omega) | omega))); (try (have hq2 : w.heap.size + 2 < w1.heap.size := by omega)); (try (have hc2 : ∀ o, w1.cell? ⟨w.heap.size + 2, o, none⟩ = _ := fun o => hx.cells.1 _ o (by first | (simp; done) | (simp; omega) | omega))); (try (have hf2 : ∀ o, w1.frozen? ⟨w.heap.size + 2, o, none⟩ = _ := fun o => hx.cells.2 _ o (by first | (simp; done) | (simp; omega) | omega)))) | (go_at_call 30; (with_reducible refine (handThrows_any _ _ n _ m _ ps os _ (hI.ext (by with_reducible (repeat (first | exact Ext.refl _ | apply Ext.drewN | apply Ext.drew | apply Ext.alloc | (refine Ext.set ?_ (by first | (simp; done) | (simp; omega) | omega) _) | (refine Ext.trans ?_ (by assumption)))))) (hJ.ext (by with_reducible (repeat (first | exact Ext.refl _ | apply Ext.drewN | apply Ext.drew | apply Ext.alloc | (refine Ext.set ?_ (by first | (simp; done) | (simp; omega) | omega) _) | (refine Ext.trans ?_ (by assumption)))))) HV.out HO.out).mono ?_); rw [HYS.out, HNN.out]; rintro e w2 ⟨A1, c1, rfl, ho⟩))
  have hJ2 := ho.row.ints (by omega) (fun y hy => by have := hBD.out y hy; omega)
  have hxw : Ext w w2 := Ext.trans (by with_reducible (repeat (first | exact Ext.refl _ | apply Ext.drewN | apply Ext.drew | apply Ext.alloc | (refine Ext.set ?_ (by first | (simp; done) | (simp; omega) | omega) _) | (refine Ext.trans ?_ (by assumption))))) ho.ext
  have hYB := Lib.hid hJ2.getD_bd
  go_loopw [6, 17, 8] (fun s i _ wr => ∃ k : Nat, k ≤ N ∧ i = .int .i64 k ∧ s = .int .i64 (crx ys k) ∧ Ext w2 wr) (fun _ i _ _ => N - (intOf i).toNat)
  case atStart => exact ⟨0, Nat.zero_le _, rfl, rfl, Ext.refl _⟩
  case round =>
    obtain ⟨k, hk, rfl, rfl, hx2⟩ := hrel
    have hcx := crx_bd ys k
    by_cases hlt : k < N
    · obtain ⟨b, off, hA, hb, hcell⟩ := (hJ2.ext hx2).at_ (by omega)
      subst hA
      have ik : (k : Int) < N := by omega
      have hc0 := hcell (k * 4) (by omega)
      (try rw [← Nat.add_assoc] at hc0)
      have hc1 := hcell (k * 4 + 1) (by omega)
      (try rw [← Nat.add_assoc] at hc1)
      have hc2 := hcell (k * 4 + 2) (by omega)
      (try rw [← Nat.add_assoc] at hc2)
      have hc3 := hcell (k * 4 + 3) (by omega)
      (try rw [← Nat.add_assoc] at hc3)
      clear hcell
      by_cases h0 : ys[k * 4 + 2]?.getD 0 = ys[k * 4 + 3]?.getD 0
      · have HS : Hid (crx ys (k + 1) = crx ys k) := by show _ = _; simp only [crx]; rw [if_pos h0]; omega
        generalize ys[k * 4 + 2]?.getD 0 = u at *
        generalize ys[k * 4 + 3]?.getD 0 = v at *
        subst h0
        go_wp2
        go_roundw
        case rel => exact ⟨k + 1, by omega, by go_num, by rw [HS.out], (by with_reducible (repeat (first | exact Ext.refl _ | apply Ext.drewN | apply Ext.drew | apply Ext.alloc | (refine Ext.set ?_ (by first | (simp; done) | (simp; omega) | omega) _) | (refine Ext.trans ?_ (by assumption)))))⟩
        case measure => simp [intOf]; omega
      · have HS : Hid (crx ys (k + 1) = crx ys k + 1) := by show _ = _; simp only [crx]; rw [if_neg h0]
        have hne : (ys[k * 4 + 2]?.getD 0 != ys[k * 4 + 3]?.getD 0) = true := by simpa using h0
        have hne2 : (ys[k * 4 + 2]?.getD 0 == ys[k * 4 + 3]?.getD 0) = false := by simpa using h0
        clear h0
        generalize ys[k * 4 + 2]?.getD 0 = u at *
        generalize ys[k * 4 + 3]?.getD 0 = v at *
        go_wp2
        go_roundw
        case rel => exact ⟨k + 1, by omega, by go_num, by rw [HS.out], (by with_reducible (repeat (first | exact Ext.refl _ | apply Ext.drewN | apply Ext.drew | apply Ext.alloc | (refine Ext.set ?_ (by first | (simp; done) | (simp; omega) | omega) _) | (refine Ext.trans ?_ (by assumption)))))⟩
        case measure => simp [intOf]; omega
    · obtain rfl : k = N := by omega
      go_wp2
      go_ret2
      exact ⟨rfl, (by with_reducible (repeat (first | exact Ext.refl _ | apply Ext.drewN | apply Ext.drew | apply Ext.alloc | (refine Ext.set ?_ (by first | (simp; done) | (simp; omega) | omega) _) | (refine Ext.trans ?_ (by assumption)))))⟩
theorem implCrossingsOf_ret (A : Option Addr) (n c : Nat) (ps : List Int) (B : Option Addr) (m d : Nat) (os : List Int) (w : World) (hI : Ints w A n ps) (hJ : Ints w B m os) :
    Calls Try.prog 20 #[.slice A n c, .slice B m d] w fun e w' => e = .returned (.tuple #[.int .i64 (crv ps os), .int .i64 (hcd ps os)]) ∧ Ext w w' := by
  unfold crv
  by_cases hr : hcd ps os = 0
  · rw [if_pos hr, hr, hI.len, hJ.len]
    exact implCrossingsOf_yes A n c ps B m d os w hI hJ hr
  · rw [if_neg hr]
    have h1 : hcd ps os = 1 := by unfold hcd at hr ⊢; split <;> simp_all
    rw [h1]
    have HC : Hid (¬ hcd ps os = 0) := by show ¬ _; omega
    clear hr h1
    go_enter Try.func20, Try.ntmps20
    go_wp2_with (first | (go_at_call 28; (with_reducible refine (areHanded_no _ _ _ _ _ _ ps os _ (hI.ext (by with_reducible (repeat (first | exact Ext.refl _ | apply Ext.drewN | apply Ext.drew | apply Ext.alloc | (refine Ext.set ?_ (by first | (simp; done) | (simp; omega) | omega) _) | (refine Ext.trans ?_ (by assumption)))))) (hJ.ext (by with_reducible (repeat (first | exact Ext.refl _ | apply Ext.drewN | apply Ext.drew | apply Ext.alloc | (refine Ext.set ?_ (by first | (simp; done) | (simp; omega) | omega) _) | (refine Ext.trans ?_ (by assumption)))))) HC.out).mono ?_); rintro e w1 ⟨rfl, hx⟩; have hz := hx.size; (try simp at hz); (try (have hq0 : w.heap.size < w1.heap.size := by omega)); (try (have hc0 : ∀ o, w1.cell? ⟨w.heap.size, o, none⟩ = _ := fun o => hx.cells.1 _ o (by first | (simp; done) | (simp; omega) | omega))); (try (have hf0 : ∀ o, w1.frozen? ⟨w.heap.size, o, none⟩ = _ := fun o => hx.cells.2 _ o (by first | (simp; done) | (simp; omega) | omega))); (try (have hq1 : w.heap.size + 1 < w1.heap.size := by omega)); (try (have hc1 : ∀ o, w1.cell? ⟨w.heap.size + 1, o, none⟩ = _ := fun o => hx.cells.1 _ o (by first | (simp; done) | (simp; omega) | omega))); (try (have hf1 : ∀ o, w1.frozen? ⟨w.heap.size + 1, o, none⟩ = _ := fun o => hx.cells.2 _ o (by first | (simp; done) | (simp; omega) | omega))); (try (have hq2 : w.heap.size + 2 < w1.heap.size := by omega)); (try (have hc2 : ∀ o, w1.cell? ⟨w.heap.size + 2, o, none⟩ = _ := fun o => hx.cells.1 _ o (by first | (simp; done) | (simp; omega) | omega))); (try (have hf2 : ∀ o, w1.frozen? ⟨w.heap.size + 2, o, none⟩ = _ := fun o => hx.cells.2 _ o (by first | (simp; done) | (simp; omega) | omega)))))
    go_ret2
    exact ⟨rfl, (by with_reducible (repeat (first | exact Ext.refl _ | apply Ext.drewN | apply Ext.drew | apply Ext.alloc | (refine Ext.set ?_ (by first | (simp; done) | (simp; omega) | omega) _) | (refine Ext.trans ?_ (by assumption)))))⟩
end Go.Proofs.Ytdmjmnkcnohhlaa
