/- The walk of laws.FnFlights: flights begin and end at the height 0, are highest in the middle, and are mirrored in time. No condition. -/
import Derived.Test.YtbaabghehpcjnaaFnf
namespace Go.Proofs.Ytbaabghehpcjnaa
set_option linter.unusedVariables false
set_option linter.unusedSimpArgs false
open Go.RowKit Go.Joins

theorem fr_eq {n d : Int} (hd : 0 < d) : 1 ≤ fden n d ∧ fnum n d * d = n * fden n d := by
  unfold fnum fden
  rw [if_neg (by omega), if_neg (by omega)]
  unfold fn1 fd1
  have hg := gcd_pos (a := (n.natAbs : Int)) (b := d) hd
  have h1 : ((Int.gcd n.natAbs d : Nat) : Int) ∣ n := by
    have := Int.gcd_dvd_left (a := (n.natAbs : Int)) (b := d)
    exact Int.dvd_natAbs.1 this
  have h2 : ((Int.gcd n.natAbs d : Nat) : Int) ∣ d := Int.gcd_dvd_right _ _
  generalize Int.gcd n.natAbs d = g at *
  obtain ⟨a, ha⟩ := h1
  obtain ⟨b, hb⟩ := h2
  have hg0 : (g : Int) ≠ 0 := by omega
  subst ha hb
  rw [Int.mul_tdiv_cancel_left _ hg0, Int.mul_ediv_cancel_left _ hg0]
  have hbp : 0 < b := Int.pos_of_mul_pos_right hd (by omega)
  refine ⟨by omega, ?_⟩
  rw [Int.mul_left_comm, Int.mul_assoc]
/-- low * den ≤ num ≤ high * den. -/
theorem fr_bd {n d p lo hi : Int} {q : Int} (hd : 0 < d) (hq : 1 ≤ q) (h : p * d = n * q) (h1 : lo * d ≤ n) (h2 : n ≤ hi * d) : lo * q ≤ p ∧ p ≤ hi * q := by
  constructor
  · refine Int.le_of_mul_le_mul_right ?_ hd
    rw [h, Int.mul_right_comm]
    exact Int.mul_le_mul_of_nonneg_right h1 (by omega)
  · refine Int.le_of_mul_le_mul_right ?_ hd
    rw [h, Int.mul_right_comm hi]
    exact Int.mul_le_mul_of_nonneg_right h2 (by omega)
theorem sid_bd {x1 x2 k d lo hi : Int} (hk : 0 ≤ k ∧ k ≤ d) (h1 : lo ≤ x1 ∧ x1 ≤ hi) (h2 : lo ≤ x2 ∧ x2 ≤ hi) : lo * d ≤ x1 * (d - k) + x2 * k ∧ x1 * (d - k) + x2 * k ≤ hi * d := by
  have e : ∀ z : Int, z * d = z * (d - k) + z * k := fun z => by rw [← Int.mul_add]; congr 1; omega
  rw [e lo, e hi]
  have a1 := Int.mul_le_mul_of_nonneg_right h1.1 (show 0 ≤ d - k by omega)
  have a2 := Int.mul_le_mul_of_nonneg_right h1.2 (show 0 ≤ d - k by omega)
  have a3 := Int.mul_le_mul_of_nonneg_right h2.1 hk.1
  have a4 := Int.mul_le_mul_of_nonneg_right h2.2 hk.1
  omega
/-- The height k * (d - k). -/
theorem hgt_law {k d : Int} (hk : 0 ≤ k ∧ k ≤ d) : 0 ≤ k * (d - k) ∧ (k * (d - k) = 0 ↔ k = 0 ∨ k = d) ∧ 4 * (k * (d - k)) ≤ d * d := by
  refine ⟨Int.mul_nonneg hk.1 (by omega), ?_, ?_⟩
  · constructor
    · intro h
      rcases Int.mul_eq_zero.1 h with h | h <;> omega
    · rintro (h | h)
      · rw [h, Int.zero_mul]
      · rw [h, Int.sub_self, Int.mul_zero]
  · have h : 0 ≤ (d - 2 * k) * (d - 2 * k) := by rw [← Int.natAbs_mul_self (a := d - 2 * k)]; omega
    have e : (d - 2 * k) * (d - 2 * k) = d * d - 4 * (k * (d - k)) := by
      rw [Int.sub_mul, Int.mul_sub, Int.mul_sub, Int.mul_sub, show 2 * k * (2 * k) = 4 * (k * k) by rw [Int.mul_assoc, Int.mul_left_comm k 2 k]; omega, show 2 * k * d = 2 * (k * d) from Int.mul_assoc 2 k d, show d * (2 * k) = 2 * (k * d) by rw [Int.mul_left_comm, Int.mul_comm d k]]
      omega
    omega
theorem hgt_is (x1 x2 t1 t2 k v : Int) (w : World) (hc : Hid (tcode x1 x2 t1 t2 k = 0)) (hv : Hid ((k - t1) * (t2 - k) = v)) :
    Calls Try.prog 18 #[.agg #[.int .i64 x1, .int .i64 x2, .int .i64 t1, .int .i64 t2], .int .i64 k] w fun e w' => e = .returned (.tuple #[.int .i64 v, .int .i64 0]) ∧ Ext w w' := by
  rw [← hv.out]
  exact implHeightAt_yes x1 x2 t1 t2 k w hc.out
theorem top_is (x1 x2 t1 t2 a b : Int) (w : World) (hc : Hid (vfl x1 x2 t1 t2 = true)) (ha : Hid (fnum ((t2 - t1) * (t2 - t1)) 4 = a)) (hb : Hid (fden ((t2 - t1) * (t2 - t1)) 4 = b)) :
    Calls Try.prog 19 #[.agg #[.int .i64 x1, .int .i64 x2, .int .i64 t1, .int .i64 t2]] w fun e w' => e = .returned (.tuple #[.agg #[.int .i64 a, .int .i64 b], .int .i64 0]) ∧ Ext w w' := by
  rw [← ha.out, ← hb.out]
  exact implTopOf_yes x1 x2 t1 t2 w hc.out
theorem side_is (x1 x2 t1 t2 k a b : Int) (w : World) (hc : Hid (tcode x1 x2 t1 t2 k = 0)) (ha : Hid (fnum (sidn x1 x2 t1 t2 k) (t2 - t1) = a)) (hb : Hid (fden (sidn x1 x2 t1 t2 k) (t2 - t1) = b)) :
    Calls Try.prog 20 #[.agg #[.int .i64 x1, .int .i64 x2, .int .i64 t1, .int .i64 t2], .int .i64 k] w fun e w' => e = .returned (.tuple #[.agg #[.int .i64 a, .int .i64 b], .int .i64 0]) ∧ Ext w w' := by
  rw [← ha.out, ← hb.out]
  exact implSideAt_yes x1 x2 t1 t2 k w hc.out
theorem back_is (x1 x2 t1 t2 : Int) (w : World) (hc : Hid (vfl x1 x2 t1 t2 = true)) :
    Calls Try.prog 21 #[.agg #[.int .i64 x1, .int .i64 x2, .int .i64 t1, .int .i64 t2]] w fun e w' => e = .returned (.tuple #[.agg #[.int .i64 x2, .int .i64 x1, .int .i64 t1, .int .i64 t2], .int .i64 0]) ∧ Ext w w' :=
  implBackFlight_yes x1 x2 t1 t2 w hc.out
namespace fnFlights
set_option maxHeartbeats 8000000 in
set_option maxRecDepth 100000 in
theorem walk (A : Option Addr) (n c : Nat) (xs : List Int) (B : Option Addr) (m d : Nat) (ys : List Int) (w : World) (hI : Byts w A n xs) (hJ : Byts w B m ys) :
    Calls Try.prog 4 #[.slice A n c, .slice B m d] w fun e w' => e = .returned (.bool true) ∧ Below w.heap.size w w' := by
  have hsn := hI.small
  have hsm := hJ.small
  cases hl : (decide (3000 < n) || decide (3000 < m))
  rotate_left
  · have HL := Lib.hid hl
    clear hl
    go_enter Try.func4, Try.ntmps4
    go_wp2_with fail
    (with_reducible refine (a2Long_any _ _ _ _ _ _ _ hsn hsm).mono ?_)
    rw [HL.out]
    rintro e w' ⟨rfl, rfl⟩
    go_wp2
    go_ret
    exact ⟨rfl, Ext.below (Ext.refl _)⟩
  have HL := Lib.hid hl
  clear hl
  go_enter Try.func4, Try.ntmps4
  go_wp2_with fail
  (with_reducible refine (a2Long_any _ _ _ _ _ _ _ hsn hsm).mono ?_)
  rw [HL.out]
  rintro e w' ⟨rfl, rfl⟩
  go_wp2_with fail
  (with_reducible refine (A2Flight_any A n c xs _ (hI.ext (by with_reducible (repeat (first | exact Ext.refl _ | apply Ext.drewN | apply Ext.drew | apply Ext.alloc | (refine Ext.set ?_ (by first | (simp; done) | (simp; omega) | omega) _) | (refine Ext.trans ?_ (by assumption))))))).mono ?_)
  rintro e w1 ⟨x1, x2, t1, t2, rfl, hb, hx1⟩
  have hE_1 : Ext w w1 := Ext.trans (by with_reducible (repeat (first | exact Ext.refl _ | apply Ext.drewN | apply Ext.drew | apply Ext.alloc | (refine Ext.set ?_ (by first | (simp; done) | (simp; omega) | omega) _) | (refine Ext.trans ?_ (by assumption))))) hx1
  obtain ⟨D, hD⟩ : ∃ D, t2 - t1 = D := ⟨_, rfl⟩
  have hDb : 1 ≤ D ∧ D ≤ 40 := by omega
  go_wp2_with fail
  (with_reducible refine (a2At_is B m d ys 0 0 (D + 1) _ (hJ.ext (Ext.alloc hE_1 _)) rfl (by omega) (by omega) (by omega)).mono ?_)
  rintro e w' ⟨k, rfl, hk0, hk1, hk2, rfl⟩
  have hkD : 0 ≤ k ∧ k ≤ D := by omega
  have hv : vfl x1 x2 t1 t2 = true := vfl_iff.2 (by omega)
  have hv2 : vfl x2 x1 t1 t2 = true := vfl_iff.2 (by omega)
  have HV := Lib.hid hv
  have hc1 : Hid (tcode x1 x2 t1 t2 (t1 + k) = 0) := by show _ = _; unfold tcode; rw [hv, btw_iff.2 (by omega)]; rfl
  have hc2 : Hid (tcode x1 x2 t1 t2 (t2 - k) = 0) := by show _ = _; unfold tcode; rw [hv, btw_iff.2 (by omega)]; rfl
  have hc3 : Hid (tcode x2 x1 t1 t2 (t2 - k) = 0) := by show _ = _; unfold tcode; rw [hv2, btw_iff.2 (by omega)]; rfl
  obtain ⟨h, hh⟩ : ∃ h, k * (D - k) = h := ⟨_, rfl⟩
  obtain ⟨s, hs⟩ : ∃ s, D * D = s := ⟨_, rfl⟩
  obtain ⟨l1, l2, l3⟩ := hgt_law hkD
  rw [hh] at l1 l2 l3
  rw [hs] at l3
  have hsb := mul_bd (a := D) (b := D) (A := 40) (B := 40) (by omega) (by omega)
  rw [hs] at hsb
  have H1 : Hid ((t1 + k - t1) * (t2 - (t1 + k)) = h) := by show _ = _; rw [← hh]; congr 1 <;> omega
  have H2 : Hid ((t2 - k - t1) * (t2 - (t2 - k)) = h) := by show _ = _; rw [← hh, Int.mul_comm k]; congr 1 <;> omega
  obtain ⟨a, ha⟩ : ∃ a, fnum ((t2 - t1) * (t2 - t1)) 4 = a := ⟨_, rfl⟩
  obtain ⟨b, hbb⟩ : ∃ b, fden ((t2 - t1) * (t2 - t1)) 4 = b := ⟨_, rfl⟩
  obtain ⟨m1, m2⟩ := fr_eq (n := (t2 - t1) * (t2 - t1)) (d := 4) (by omega)
  rw [ha, hbb] at m2
  rw [hbb] at m1
  rw [hD, hs] at m2
  have HA := Lib.hid ha
  have HB := Lib.hid hbb
  have hsid : sidn x1 x2 t1 t2 (t1 + k) = x1 * (D - k) + x2 * k := by unfold sidn; congr 1 <;> congr 1 <;> omega
  have hsid2 : sidn x2 x1 t1 t2 (t2 - k) = sidn x1 x2 t1 t2 (t1 + k) := by rw [hsid]; unfold sidn; rw [Int.add_comm]; congr 1 <;> congr 1 <;> omega
  obtain ⟨p, hp⟩ : ∃ p, fnum (sidn x1 x2 t1 t2 (t1 + k)) (t2 - t1) = p := ⟨_, rfl⟩
  obtain ⟨q, hq⟩ : ∃ q, fden (sidn x1 x2 t1 t2 (t1 + k)) (t2 - t1) = q := ⟨_, rfl⟩
  obtain ⟨n1, n2⟩ := fr_eq (n := sidn x1 x2 t1 t2 (t1 + k)) (d := t2 - t1) (by omega)
  rw [hp, hq, hD] at n2
  rw [hq] at n1
  have HP := Lib.hid hp
  have HQ := Lib.hid hq
  have HP2 : Hid (fnum (sidn x2 x1 t1 t2 (t2 - k)) (t2 - t1) = p) := by show _ = _; rw [hsid2]; exact hp
  have HQ2 : Hid (fden (sidn x2 x1 t1 t2 (t2 - k)) (t2 - t1) = q) := by show _ = _; rw [hsid2]; exact hq
  have BD : ∀ lo hi : Int, lo ≤ x1 ∧ x1 ≤ hi → lo ≤ x2 ∧ x2 ≤ hi → lo * q ≤ p ∧ p ≤ hi * q := fun lo hi g1 g2 => by
    obtain ⟨e1, e2⟩ := sid_bd (x1 := x1) (x2 := x2) hkD g1 g2
    exact fr_bd (by omega) n1 (by rw [n2, hsid]) e1 e2
  have hq40 : Hid (q ≤ 40) := by
    show _ ≤ _
    rw [← hq]
    unfold fden
    rw [if_neg (by omega)]
    unfold fd1
    have hg := gcd_pos (a := ((sidn x1 x2 t1 t2 (t1 + k)).natAbs : Int)) (b := t2 - t1) (by omega)
    have := ediv_le (t2 - t1) (Int.gcd (sidn x1 x2 t1 t2 (t1 + k)).natAbs (t2 - t1)) (by omega) (by omega)
    omega
  have hb4 : Hid (b ≤ 4) := by
    show _ ≤ _
    rw [← hbb]
    unfold fden
    rw [if_neg (by omega)]
    unfold fd1
    have hg := gcd_pos (a := (((t2 - t1) * (t2 - t1)).natAbs : Int)) (b := 4) (by omega)
    have := ediv_le 4 (Int.gcd ((t2 - t1) * (t2 - t1)).natAbs 4) (by omega) (by omega)
    omega
  have HM2 := Lib.hid m2
  have HDD := Lib.hid hs
  clear hp hq ha hbb hsid hsid2 hv hv2 hh n2 m2
  go_wp2_with fail
  (with_reducible refine (hgt_is x1 x2 t1 t2 (t1 + k) h _ hc1 H1).mono ?_)
  rintro e w2 ⟨rfl, hx2⟩
  have hp_2 : Ext w1 w2 := Ext.trans (by with_reducible (repeat (first | exact Ext.refl _ | apply Ext.drewN | apply Ext.drew | apply Ext.alloc | (refine Ext.set ?_ (by first | (simp; done) | (simp; omega) | omega) _) | (refine Ext.trans ?_ (by assumption))))) hx2
  have hE_2 : Ext w w2 := hE_1.trans hp_2
  have hs_2 := hx2.size
  (try simp at hs_2)
  have cF0_2 : w2.cell? ⟨w1.heap.size, 0, none⟩ = some (.int .i64 x1) := hx2.cell (by simp) ((cell_of_block (heap_alloc_new _ _) 0).trans rfl)
  have cF1_2 : w2.cell? ⟨w1.heap.size, 1, none⟩ = some (.int .i64 x2) := hx2.cell (by simp) ((cell_of_block (heap_alloc_new _ _) 1).trans rfl)
  have cF2_2 : w2.cell? ⟨w1.heap.size, 2, none⟩ = some (.int .i64 t1) := hx2.cell (by simp) ((cell_of_block (heap_alloc_new _ _) 2).trans rfl)
  have cF3_2 : w2.cell? ⟨w1.heap.size, 3, none⟩ = some (.int .i64 t2) := hx2.cell (by simp) ((cell_of_block (heap_alloc_new _ _) 3).trans rfl)
  have hlF_2 : w1.heap.size < w2.heap.size := by omega
  go_wp2_with fail
  (with_reducible refine (hgt_is x1 x2 t1 t2 (t2 - k) h _ hc2 H2).mono ?_)
  rintro e w3 ⟨rfl, hx3⟩
  have hp_3 : Ext w2 w3 := Ext.trans (by with_reducible (repeat (first | exact Ext.refl _ | apply Ext.drewN | apply Ext.drew | apply Ext.alloc | (refine Ext.set ?_ (by first | (simp; done) | (simp; omega) | omega) _) | (refine Ext.trans ?_ (by assumption))))) hx3
  have hE_3 : Ext w w3 := hE_2.trans hp_3
  have hs_3 := hx3.size
  (try simp at hs_3)
  have cF0_3 : w3.cell? ⟨w1.heap.size, 0, none⟩ = some (.int .i64 x1) := hp_3.cell hlF_2 cF0_2
  have cF1_3 : w3.cell? ⟨w1.heap.size, 1, none⟩ = some (.int .i64 x2) := hp_3.cell hlF_2 cF1_2
  have cF2_3 : w3.cell? ⟨w1.heap.size, 2, none⟩ = some (.int .i64 t1) := hp_3.cell hlF_2 cF2_2
  have cF3_3 : w3.cell? ⟨w1.heap.size, 3, none⟩ = some (.int .i64 t2) := hp_3.cell hlF_2 cF3_2
  have hlF_3 : w1.heap.size < w3.heap.size := by omega
  clear cF0_2 cF1_2 cF2_2 cF3_2
  go_wp2_with fail
  (with_reducible refine (top_is x1 x2 t1 t2 a b _ HV HA HB).mono ?_)
  rintro e w4 ⟨rfl, hx4⟩
  have hp_4 : Ext w3 w4 := Ext.trans (by with_reducible (repeat (first | exact Ext.refl _ | apply Ext.drewN | apply Ext.drew | apply Ext.alloc | (refine Ext.set ?_ (by first | (simp; done) | (simp; omega) | omega) _) | (refine Ext.trans ?_ (by assumption))))) hx4
  have hE_4 : Ext w w4 := hE_3.trans hp_4
  have hs_4 := hx4.size
  (try simp at hs_4)
  have cF0_4 : w4.cell? ⟨w1.heap.size, 0, none⟩ = some (.int .i64 x1) := hp_4.cell hlF_3 cF0_3
  have cF1_4 : w4.cell? ⟨w1.heap.size, 1, none⟩ = some (.int .i64 x2) := hp_4.cell hlF_3 cF1_3
  have cF2_4 : w4.cell? ⟨w1.heap.size, 2, none⟩ = some (.int .i64 t1) := hp_4.cell hlF_3 cF2_3
  have cF3_4 : w4.cell? ⟨w1.heap.size, 3, none⟩ = some (.int .i64 t2) := hp_4.cell hlF_3 cF3_3
  have hlF_4 : w1.heap.size < w4.heap.size := by omega
  clear cF0_3 cF1_3 cF2_3 cF3_3
  go_wp2_with fail
  (with_reducible refine (side_is x1 x2 t1 t2 (t1 + k) p q _ hc1 HP HQ).mono ?_)
  rintro e w5 ⟨rfl, hx5⟩
  have hp_5 : Ext w4 w5 := Ext.trans (by with_reducible (repeat (first | exact Ext.refl _ | apply Ext.drewN | apply Ext.drew | apply Ext.alloc | (refine Ext.set ?_ (by first | (simp; done) | (simp; omega) | omega) _) | (refine Ext.trans ?_ (by assumption))))) hx5
  have hE_5 : Ext w w5 := hE_4.trans hp_5
  have hs_5 := hx5.size
  (try simp at hs_5)
  have cF0_5 : w5.cell? ⟨w1.heap.size, 0, none⟩ = some (.int .i64 x1) := hp_5.cell hlF_4 cF0_4
  have cF1_5 : w5.cell? ⟨w1.heap.size, 1, none⟩ = some (.int .i64 x2) := hp_5.cell hlF_4 cF1_4
  have cF2_5 : w5.cell? ⟨w1.heap.size, 2, none⟩ = some (.int .i64 t1) := hp_5.cell hlF_4 cF2_4
  have cF3_5 : w5.cell? ⟨w1.heap.size, 3, none⟩ = some (.int .i64 t2) := hp_5.cell hlF_4 cF3_4
  have hlF_5 : w1.heap.size < w5.heap.size := by omega
  clear cF0_4 cF1_4 cF2_4 cF3_4
  have cT0_5 : w5.cell? ⟨w4.heap.size, 0, none⟩ = some (.int .i64 a) := hx5.cell (by simp) ((cell_of_block (heap_alloc_new _ _) 0).trans rfl)
  have cT1_5 : w5.cell? ⟨w4.heap.size, 1, none⟩ = some (.int .i64 b) := hx5.cell (by simp) ((cell_of_block (heap_alloc_new _ _) 1).trans rfl)
  have hlT_5 : w4.heap.size < w5.heap.size := by omega
  go_wp2_with fail
  (with_reducible refine (back_is x1 x2 t1 t2 _ HV).mono ?_)
  rintro e w6 ⟨rfl, hx6⟩
  have hp_6 : Ext w5 w6 := Ext.trans (by with_reducible (repeat (first | exact Ext.refl _ | apply Ext.drewN | apply Ext.drew | apply Ext.alloc | (refine Ext.set ?_ (by first | (simp; done) | (simp; omega) | omega) _) | (refine Ext.trans ?_ (by assumption))))) hx6
  have hE_6 : Ext w w6 := hE_5.trans hp_6
  have hs_6 := hx6.size
  (try simp at hs_6)
  have cF0_6 : w6.cell? ⟨w1.heap.size, 0, none⟩ = some (.int .i64 x1) := hp_6.cell hlF_5 cF0_5
  have cF1_6 : w6.cell? ⟨w1.heap.size, 1, none⟩ = some (.int .i64 x2) := hp_6.cell hlF_5 cF1_5
  have cF2_6 : w6.cell? ⟨w1.heap.size, 2, none⟩ = some (.int .i64 t1) := hp_6.cell hlF_5 cF2_5
  have cF3_6 : w6.cell? ⟨w1.heap.size, 3, none⟩ = some (.int .i64 t2) := hp_6.cell hlF_5 cF3_5
  have hlF_6 : w1.heap.size < w6.heap.size := by omega
  clear cF0_5 cF1_5 cF2_5 cF3_5
  have cT0_6 : w6.cell? ⟨w4.heap.size, 0, none⟩ = some (.int .i64 a) := hp_6.cell hlT_5 cT0_5
  have cT1_6 : w6.cell? ⟨w4.heap.size, 1, none⟩ = some (.int .i64 b) := hp_6.cell hlT_5 cT1_5
  have hlT_6 : w4.heap.size < w6.heap.size := by omega
  clear cT0_5 cT1_5
  have cX0_6 : w6.cell? ⟨w5.heap.size, 0, none⟩ = some (.int .i64 p) := hx6.cell (by simp) ((cell_of_block (heap_alloc_new _ _) 0).trans rfl)
  have cX1_6 : w6.cell? ⟨w5.heap.size, 1, none⟩ = some (.int .i64 q) := hx6.cell (by simp) ((cell_of_block (heap_alloc_new _ _) 1).trans rfl)
  have hlX_6 : w5.heap.size < w6.heap.size := by omega
  go_wp2_with fail
  (with_reducible refine (side_is x2 x1 t1 t2 (t2 - k) p q _ hc3 HP2 HQ2).mono ?_)
  rintro e w7 ⟨rfl, hx7⟩
  have hp_7 : Ext w6 w7 := Ext.trans (by with_reducible (repeat (first | exact Ext.refl _ | apply Ext.drewN | apply Ext.drew | apply Ext.alloc | (refine Ext.set ?_ (by first | (simp; done) | (simp; omega) | omega) _) | (refine Ext.trans ?_ (by assumption))))) hx7
  have hE_7 : Ext w w7 := hE_6.trans hp_7
  have hs_7 := hx7.size
  (try simp at hs_7)
  have cF0_7 : w7.cell? ⟨w1.heap.size, 0, none⟩ = some (.int .i64 x1) := hp_7.cell hlF_6 cF0_6
  have cF1_7 : w7.cell? ⟨w1.heap.size, 1, none⟩ = some (.int .i64 x2) := hp_7.cell hlF_6 cF1_6
  have cF2_7 : w7.cell? ⟨w1.heap.size, 2, none⟩ = some (.int .i64 t1) := hp_7.cell hlF_6 cF2_6
  have cF3_7 : w7.cell? ⟨w1.heap.size, 3, none⟩ = some (.int .i64 t2) := hp_7.cell hlF_6 cF3_6
  have hlF_7 : w1.heap.size < w7.heap.size := by omega
  clear cF0_6 cF1_6 cF2_6 cF3_6
  have cT0_7 : w7.cell? ⟨w4.heap.size, 0, none⟩ = some (.int .i64 a) := hp_7.cell hlT_6 cT0_6
  have cT1_7 : w7.cell? ⟨w4.heap.size, 1, none⟩ = some (.int .i64 b) := hp_7.cell hlT_6 cT1_6
  have hlT_7 : w4.heap.size < w7.heap.size := by omega
  clear cT0_6 cT1_6
  have cX0_7 : w7.cell? ⟨w5.heap.size, 0, none⟩ = some (.int .i64 p) := hp_7.cell hlX_6 cX0_6
  have cX1_7 : w7.cell? ⟨w5.heap.size, 1, none⟩ = some (.int .i64 q) := hp_7.cell hlX_6 cX1_6
  have hlX_7 : w5.heap.size < w7.heap.size := by omega
  clear cX0_6 cX1_6
  have cK0_7 : w7.cell? ⟨w6.heap.size, 0, none⟩ = some (.int .i64 x2) := hx7.cell (by simp) ((cell_of_block (heap_alloc_new _ _) 0).trans rfl)
  have cK1_7 : w7.cell? ⟨w6.heap.size, 1, none⟩ = some (.int .i64 x1) := hx7.cell (by simp) ((cell_of_block (heap_alloc_new _ _) 1).trans rfl)
  have cK2_7 : w7.cell? ⟨w6.heap.size, 2, none⟩ = some (.int .i64 t1) := hx7.cell (by simp) ((cell_of_block (heap_alloc_new _ _) 2).trans rfl)
  have cK3_7 : w7.cell? ⟨w6.heap.size, 3, none⟩ = some (.int .i64 t2) := hx7.cell (by simp) ((cell_of_block (heap_alloc_new _ _) 3).trans rfl)
  have hlK_7 : w6.heap.size < w7.heap.size := by omega
  have hq4 := hq40.out
  have hb5 := hb4.out
  obtain ⟨v, hv⟩ : ∃ v, s * b = v := ⟨_, rfl⟩
  have hvb := mul_bd (a := s) (b := b) (A := 1600) (B := 4) (by omega) (by omega)
  rw [hv] at hvb
  have hv2 : a * 4 = v := by rw [HM2.out, hv]
  obtain ⟨z1, hz1⟩ : ∃ z, x1 * q = z := ⟨_, rfl⟩
  obtain ⟨z2, hz2⟩ : ∃ z, x2 * q = z := ⟨_, rfl⟩
  have hzb1 := mul_bd (a := x1) (b := q) (A := 50) (B := 40) (by omega) (by omega)
  have hzb2 := mul_bd (a := x2) (b := q) (A := 50) (B := 40) (by omega) (by omega)
  rw [hz1] at hzb1
  rw [hz2] at hzb2
  have hk0 : h = 0 ∧ k = 0 ∨ h = 0 ∧ ¬ k = 0 ∧ k = D ∨ ¬ h = 0 ∧ ¬ k = 0 ∧ ¬ k = D := by omega
  have hk : h = 0 ∧ k = 0 ∨ h = 0 ∧ (k == 0) = false ∧ k = D ∨ (h == 0) = false ∧ (k == 0) = false ∧ (k == D) = false := by simpa using hk0
  clear hk0
  have hx : x2 < x1 ∧ z2 ≤ p ∧ p ≤ z1 ∨ ¬ x2 < x1 ∧ z1 ≤ p ∧ p ≤ z2 := by
    by_cases hx : x2 < x1
    · have := BD x2 x1 (by omega) (by omega)
      rw [hz1, hz2] at this
      exact .inl ⟨hx, this⟩
    · have := BD x1 x2 (by omega) (by omega)
      rw [hz1, hz2] at this
      exact .inr ⟨hx, this⟩
  clear BD l2
  rcases hx with ⟨hx, hp1, hp2⟩ | ⟨hx, hp1, hp2⟩
  all_goals
    rcases hk with ⟨hk1, hk2⟩ | ⟨hk1, hk2, hk3⟩ | ⟨hk1, hk2, hk3⟩
  all_goals
    go_wp2
    go_ret
    exact ⟨rfl, Ext.below (hE_7.alloc _)⟩
end fnFlights
end Go.Proofs.Ytbaabghehpcjnaa
