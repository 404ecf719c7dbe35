/- Orders of hands: contracts of ValidHands, areHanded, l14Code, of hands at beats and of common periods. No condition but the stated bounds. -/
import Derived.Test.YtendemigegjbfaaHnd
namespace Go.Proofs.Ytendemigegjbfaa
set_option linter.unusedVariables false
set_option linter.unusedSimpArgs false
open Go.RowKit Go.Joins

/-- The block behind w tells which hands are among the first k. -/
def SeenB (w wr : World) (os : List Int) (k : Nat) : Prop :=
  ∃ cs : Array Value, wr.heap[w.heap.size]? = some (.cells cs 85 (0, 0)) ∧ cs.size = 4 ∧ (∀ h : Nat, h < 4 → cs[h]? = some (.bool (sn os k h))) ∧ Ext w wr
theorem SeenB.cell {w wr : World} {os : List Int} {k h : Nat} (s : SeenB w wr os k) (hh : h < 4) : wr.cell? ⟨w.heap.size, h, none⟩ = some (.bool (sn os k h)) ∧ wr.frozen? ⟨w.heap.size, h, none⟩ = false := by
  obtain ⟨cs, hb, _, hc, _⟩ := s
  exact ⟨by rw [cell_of_block hb, hc h hh], unfrozen_of_block hb h⟩
theorem SeenB.store {w wr : World} {os : List Int} {k o : Nat} (s : SeenB w wr os k) (ho : os[k]?.getD 0 = (o : Int)) (h4 : o < 4) : SeenB w (wr.setCell ⟨w.heap.size, o, none⟩ (.bool true)) os (k + 1) := by
  obtain ⟨cs, hb, hs, hc, hx⟩ := s
  refine ⟨_, block_setCell hb _, by simpa using hs, fun h hh => ?_, hx.set (Nat.le_refl _) _⟩
  rw [Array.getElem?_setIfInBounds, sn_succ, ho]
  by_cases e : o = h
  · subst e
    rw [if_pos rfl, if_pos (by omega)]
    simp
  · rw [if_neg e, hc h hh, decide_eq_false (p := (o : Int) = (h : Int)) (by omega), Bool.or_false]
set_option maxHeartbeats 2000000 in
theorem ValidHands_any (A : Option Addr) (n c : Nat) (os : List Int) (w : World) (hI : Ints w A n os) :
    Calls Try.prog 82 #[.slice A n c] w fun e w' => e = .returned (.bool (vhd os)) ∧ Ext w w' := by
  have hs := hI.small
  have HL := Lib.hid hI.len
  go_enter Try.func82, Try.ntmps82
  go_wp2
  go_loopw [10, 5] (fun i _ wr => ∃ k : Nat, k ≤ n ∧ i = .int .i64 k ∧ AllH os k ∧ SeenB w wr os k) (fun i _ _ => n - (intOf i).toNat)
  case atStart =>
    refine ⟨0, Nat.zero_le _, rfl, fun i h => absurd h (by omega), _, heap_alloc_new _ _, rfl, fun h hh => ?_, (Ext.refl _).alloc _⟩
    rw [sn_zero]
    rcases (by omega : h = 0 ∨ h = 1 ∨ h = 2 ∨ h = 3) with rfl | rfl | rfl | rfl <;> rfl
  case round =>
    obtain ⟨k, hk, rfl, hall, hseen⟩ := hrel
    have hxw : Ext w wr := by obtain ⟨_, _, _, _, h⟩ := hseen; exact h
    by_cases hlt : k < n
    · obtain ⟨b, off, rfl, hb, hcell⟩ := (hI.ext hxw).at_ (by omega)
      have hc := hcell k hlt
      have ik : (k : Int) < n := by omega
      clear hcell
      cases h1 : btw (os[k]?.getD 0) 0 3
      · have HR : Hid (vhd os = false) := vhd_all (by rw [HL.out]; exact hlt) h1
        have H1 := Lib.hid h1
        clear h1
        go_wp2_with (first | (go_at_call 47; (with_reducible refine (between_is _ _ _ _ H1.out _).mono ?_); rintro e w' ⟨rfl, rfl⟩))
        go_ret
        exact ⟨ret_bool HR.out.symm, hxw⟩
      · have HA : Hid (AllH os (k + 1)) := hall.succ h1
        have hob := btw_iff.1 h1
        obtain ⟨o, ho⟩ : ∃ o : Nat, os[k]?.getD 0 = o := ⟨(os[k]?.getD 0).toNat, by omega⟩
        have ho4 : o < 4 := by omega
        have hoi : (o : Int) < 4 := by omega
        obtain ⟨hc2, hf2⟩ := hseen.cell ho4
        have HST := Lib.hid (hseen.store ho ho4)
        rw [ho] at hc h1
        have H1 := Lib.hid h1
        clear h1 ho hob
        go_wp2_with (first | (go_at_call 47; (with_reducible refine (between_is _ _ _ _ H1.out _).mono ?_); rintro e w' ⟨rfl, rfl⟩))
        go_roundw
        case rel => exact ⟨k + 1, by omega, by go_num, HA.out, HST.out⟩
        case measure => simp [intOf]; omega
    · obtain rfl : k = n := by omega
      cases h0 : btw (k : Int) 1 12
      · have HR : Hid (vhd os = false) := vhd_len (by rw [HL.out]; exact h0)
        have H0 := Lib.hid h0
        clear h0
        go_wp2_with (first | (go_at_call 47; (with_reducible refine (between_is _ _ _ _ H0.out _).mono ?_); rintro e w' ⟨rfl, rfl⟩))
        go_ret
        exact ⟨ret_bool HR.out.symm, hxw⟩
      · have hn := btw_iff.1 h0
        have H0 := Lib.hid h0
        clear h0
        have HB := Lib.hid hall.bd
        have hcb : 1 ≤ hct os ∧ hct os ≤ 4 := by
          have := hig_bd3 (os := os) (k := k) HB.out
          unfold hct
          rw [HL.out]
          omega
        have HA := Lib.hid hall
        clear hall
        go_wp2_with (first | (go_at_call 47; (with_reducible refine (between_is _ _ _ _ H0.out _).mono ?_); rintro e w' ⟨rfl, rfl⟩) | (go_at_call 94; (with_reducible refine (handCount_any _ _ _ os _ (hI.ext hxw) HB.out (by omega)).mono ?_); rintro e w' ⟨rfl, rfl⟩))
        go_loop [26, 6] (fun i _ => ∃ j : Nat, (j : Int) ≤ hct os ∧ i = .int .i64 j ∧ SeenTo os j) (fun i _ => (hct os - intOf i).toNat)
        case atStart => exact ⟨0, by omega, rfl, fun i h => absurd h (by omega)⟩
        case round =>
          obtain ⟨j, hj, rfl, hse⟩ := hrel
          have HSe := Lib.hid hse
          clear hse
          by_cases hjl : (j : Int) < hct os
          · have hj4 : j < 4 := by omega
            have hji : (j : Int) < 4 := by omega
            obtain ⟨hc2, hf2⟩ := hseen.cell hj4
            cases h1 : sn os k j
            · have HR : Hid (vhd os = false) := vhd_seen hjl (by rw [HL.out]; exact h1)
              rw [h1] at hc2
              clear h1
              go_wp2
              go_ret
              exact ⟨ret_bool HR.out.symm, hxw⟩
            · have HS : Hid (SeenTo os (j + 1)) := fun h hh => by
                by_cases e : h = j
                · rw [e, HL.out]; exact h1
                · exact HSe.out h (by omega)
              rw [h1] at hc2
              clear h1
              go_wp2
              go_round
              case rel => exact ⟨j + 1, by omega, by go_num, HS.out⟩
              case measure => simp [intOf]; omega
          · have HR : Hid (vhd os = true) := vhd_yes (by rw [HL.out]; exact H0.out) (by rw [HL.out]; exact HA.out) (by rw [show (hct os).toNat = j by omega]; exact HSe.out)
            go_wp2
            go_ret
            exact ⟨ret_bool HR.out.symm, hxw⟩
theorem ValidHands_is (A : Option Addr) (n c : Nat) (os : List Int) (w : World) (hI : Ints w A n os) (v : Bool) (hv : vhd os = v) :
    Calls Try.prog 82 #[.slice A n c] w fun e w' => e = .returned (.bool v) ∧ Ext w w' := by
  subst hv
  exact ValidHands_any A n c os w hI
theorem l14Ok_is (A : Option Addr) (n c : Nat) (os : List Int) (w : World) (hI : Ints w A n os) (v : Bool) (hv : vhd os = v) :
    Calls Try.prog 58 #[.slice A n c] w fun e w' => e = .returned (.bool v) ∧ w = w' := by
  subst hv
  exact l14Ok_any A n c os w hI
/-- The code of a pattern and an order. -/
def hcd (ps os : List Int) : Int := if vpat ps && vhd os then 0 else 1
theorem hcd_zero {ps os : List Int} (h : hcd ps os = 0) : vpat ps = true ∧ vhd os = true := by
  unfold hcd at h
  split at h
  · rename_i h1
    rwa [Bool.and_eq_true] at h1
  · cases h
theorem areHanded_any (A B : Option Addr) (n c m d : Nat) (ps os : List Int) (w : World) (hI : Ints w A n ps) (hJ : Ints w B m os) :
    Calls Try.prog 56 #[.slice A n c, .slice B m d] w fun e w' => e = .returned (.bool (vpat ps && vhd os)) ∧ Ext w w' := by
  cases hv : vpat ps
  · rw [show (false && vhd os) = false from rfl]
    go_enter Try.func56, Try.ntmps56
    go_wp2_with (first | (go_at_call 51; (with_reducible refine (ValidPattern_is _ _ _ ps _ hv _ (hI.ext (by with_reducible (repeat (first | exact Ext.refl _ | apply Ext.drewN | apply Ext.drew | apply Ext.alloc | (refine Ext.set ?_ (by first | (simp; done) | (simp; omega) | omega) _) | (refine Ext.trans ?_ (by assumption))))))).mono ?_); rintro e w1 ⟨rfl, hx⟩; have hz := hx.size; (try simp at hz); (try (have hq0 : w.heap.size < w1.heap.size := by omega)); (try (have hc0 : ∀ o, w1.cell? ⟨w.heap.size, o, none⟩ = _ := fun o => hx.cells.1 _ o (by first | (simp; done) | (simp; omega) | omega))); (try (have hf0 : ∀ o, w1.frozen? ⟨w.heap.size, o, none⟩ = _ := fun o => hx.cells.2 _ o (by first | (simp; done) | (simp; omega) | omega))); (try (have hq1 : w.heap.size + 1 < w1.heap.size := by omega)); (try (have hc1 : ∀ o, w1.cell? ⟨w.heap.size + 1, o, none⟩ = _ := fun o => hx.cells.1 _ o (by first | (simp; done) | (simp; omega) | omega))); (try (have hf1 : ∀ o, w1.frozen? ⟨w.heap.size + 1, o, none⟩ = _ := fun o => hx.cells.2 _ o (by first | (simp; done) | (simp; omega) | omega))); (try (have hq2 : w.heap.size + 2 < w1.heap.size := by omega)); (try (have hc2 : ∀ o, w1.cell? ⟨w.heap.size + 2, o, none⟩ = _ := fun o => hx.cells.1 _ o (by first | (simp; done) | (simp; omega) | omega))); (try (have hf2 : ∀ o, w1.frozen? ⟨w.heap.size + 2, o, none⟩ = _ := fun o => hx.cells.2 _ o (by first | (simp; done) | (simp; omega) | omega)))))
    go_ret
    exact ⟨rfl, (by with_reducible (repeat (first | exact Ext.refl _ | apply Ext.drewN | apply Ext.drew | apply Ext.alloc | (refine Ext.set ?_ (by first | (simp; done) | (simp; omega) | omega) _) | (refine Ext.trans ?_ (by assumption)))))⟩
  · cases ho : vhd os
    · rw [show (true && false) = false from rfl]
      go_enter Try.func56, Try.ntmps56
      go_wp2_with (first | (go_at_call 51; (with_reducible refine (ValidPattern_is _ _ _ ps _ hv _ (hI.ext (by with_reducible (repeat (first | exact Ext.refl _ | apply Ext.drewN | apply Ext.drew | apply Ext.alloc | (refine Ext.set ?_ (by first | (simp; done) | (simp; omega) | omega) _) | (refine Ext.trans ?_ (by assumption))))))).mono ?_); rintro e w1 ⟨rfl, hx⟩; have hz := hx.size; (try simp at hz); (try (have hq0 : w.heap.size < w1.heap.size := by omega)); (try (have hc0 : ∀ o, w1.cell? ⟨w.heap.size, o, none⟩ = _ := fun o => hx.cells.1 _ o (by first | (simp; done) | (simp; omega) | omega))); (try (have hf0 : ∀ o, w1.frozen? ⟨w.heap.size, o, none⟩ = _ := fun o => hx.cells.2 _ o (by first | (simp; done) | (simp; omega) | omega))); (try (have hq1 : w.heap.size + 1 < w1.heap.size := by omega)); (try (have hc1 : ∀ o, w1.cell? ⟨w.heap.size + 1, o, none⟩ = _ := fun o => hx.cells.1 _ o (by first | (simp; done) | (simp; omega) | omega))); (try (have hf1 : ∀ o, w1.frozen? ⟨w.heap.size + 1, o, none⟩ = _ := fun o => hx.cells.2 _ o (by first | (simp; done) | (simp; omega) | omega))); (try (have hq2 : w.heap.size + 2 < w1.heap.size := by omega)); (try (have hc2 : ∀ o, w1.cell? ⟨w.heap.size + 2, o, none⟩ = _ := fun o => hx.cells.1 _ o (by first | (simp; done) | (simp; omega) | omega))); (try (have hf2 : ∀ o, w1.frozen? ⟨w.heap.size + 2, o, none⟩ = _ := fun o => hx.cells.2 _ o (by first | (simp; done) | (simp; omega) | omega)))) | (go_at_call 82; (with_reducible refine (ValidHands_is _ _ _ os _ (hJ.ext (by with_reducible (repeat (first | exact Ext.refl _ | apply Ext.drewN | apply Ext.drew | apply Ext.alloc | (refine Ext.set ?_ (by first | (simp; done) | (simp; omega) | omega) _) | (refine Ext.trans ?_ (by assumption)))))) _ ho).mono ?_); rintro e w2 ⟨rfl, hx2⟩))
      go_ret
      exact ⟨rfl, (by with_reducible (repeat (first | exact Ext.refl _ | apply Ext.drewN | apply Ext.drew | apply Ext.alloc | (refine Ext.set ?_ (by first | (simp; done) | (simp; omega) | omega) _) | (refine Ext.trans ?_ (by assumption)))))⟩
    · rw [show (true && true) = true from rfl]
      go_enter Try.func56, Try.ntmps56
      go_wp2_with (first | (go_at_call 51; (with_reducible refine (ValidPattern_is _ _ _ ps _ hv _ (hI.ext (by with_reducible (repeat (first | exact Ext.refl _ | apply Ext.drewN | apply Ext.drew | apply Ext.alloc | (refine Ext.set ?_ (by first | (simp; done) | (simp; omega) | omega) _) | (refine Ext.trans ?_ (by assumption))))))).mono ?_); rintro e w1 ⟨rfl, hx⟩; have hz := hx.size; (try simp at hz); (try (have hq0 : w.heap.size < w1.heap.size := by omega)); (try (have hc0 : ∀ o, w1.cell? ⟨w.heap.size, o, none⟩ = _ := fun o => hx.cells.1 _ o (by first | (simp; done) | (simp; omega) | omega))); (try (have hf0 : ∀ o, w1.frozen? ⟨w.heap.size, o, none⟩ = _ := fun o => hx.cells.2 _ o (by first | (simp; done) | (simp; omega) | omega))); (try (have hq1 : w.heap.size + 1 < w1.heap.size := by omega)); (try (have hc1 : ∀ o, w1.cell? ⟨w.heap.size + 1, o, none⟩ = _ := fun o => hx.cells.1 _ o (by first | (simp; done) | (simp; omega) | omega))); (try (have hf1 : ∀ o, w1.frozen? ⟨w.heap.size + 1, o, none⟩ = _ := fun o => hx.cells.2 _ o (by first | (simp; done) | (simp; omega) | omega))); (try (have hq2 : w.heap.size + 2 < w1.heap.size := by omega)); (try (have hc2 : ∀ o, w1.cell? ⟨w.heap.size + 2, o, none⟩ = _ := fun o => hx.cells.1 _ o (by first | (simp; done) | (simp; omega) | omega))); (try (have hf2 : ∀ o, w1.frozen? ⟨w.heap.size + 2, o, none⟩ = _ := fun o => hx.cells.2 _ o (by first | (simp; done) | (simp; omega) | omega)))) | (go_at_call 82; (with_reducible refine (ValidHands_is _ _ _ os _ (hJ.ext (by with_reducible (repeat (first | exact Ext.refl _ | apply Ext.drewN | apply Ext.drew | apply Ext.alloc | (refine Ext.set ?_ (by first | (simp; done) | (simp; omega) | omega) _) | (refine Ext.trans ?_ (by assumption)))))) _ ho).mono ?_); rintro e w2 ⟨rfl, hx2⟩))
      go_ret
      exact ⟨rfl, (by with_reducible (repeat (first | exact Ext.refl _ | apply Ext.drewN | apply Ext.drew | apply Ext.alloc | (refine Ext.set ?_ (by first | (simp; done) | (simp; omega) | omega) _) | (refine Ext.trans ?_ (by assumption)))))⟩
theorem areHanded_yes (A B : Option Addr) (n c m d : Nat) (ps os : List Int) (w : World) (hI : Ints w A n ps) (hJ : Ints w B m os) (h : hcd ps os = 0) :
    Calls Try.prog 56 #[.slice A n c, .slice B m d] w fun e w' => e = .returned (.bool true) ∧ Ext w w' := by
  obtain ⟨h1, h2⟩ := hcd_zero h
  have := areHanded_any A B n c m d ps os w hI hJ
  rwa [h1, h2] at this
theorem areHanded_no (A B : Option Addr) (n c m d : Nat) (ps os : List Int) (w : World) (hI : Ints w A n ps) (hJ : Ints w B m os) (h : ¬ hcd ps os = 0) :
    Calls Try.prog 56 #[.slice A n c, .slice B m d] w fun e w' => e = .returned (.bool false) ∧ Ext w w' := by
  have h1 : (vpat ps && vhd os) = false := by
    unfold hcd at h
    cases hb : (vpat ps && vhd os)
    · rfl
    · rw [hb] at h; simp at h
  have := areHanded_any A B n c m d ps os w hI hJ
  rwa [h1] at this
theorem ord_bd {os : List Int} (h : vhd os = true) (z : Int) : 0 ≤ thAt os z ∧ thAt os z ≤ 3 := by
  obtain ⟨h1, h2, _⟩ := vhd_iff h
  have e1 := Int.emod_nonneg z (show (os.length : Int) ≠ 0 by omega)
  have e2 := Int.emod_lt_of_pos z (show 0 < (os.length : Int) by omega)
  exact h2 _ (by omega)
theorem l14At_any (A : Option Addr) (n c : Nat) (os : List Int) (t : Int) (w : World) (hI : Ints w A n os) (hv : vhd os = true) :
    Calls Try.prog 60 #[.slice A n c, .int .i64 t] w fun e w' => e = .returned (.int .i64 (thAt os t)) ∧ w = w' := by
  obtain ⟨⟨h2, h3⟩, h1, _⟩ := vhd_iff hv
  rw [hI.len] at h1 h2 h3
  have e1 := Int.emod_nonneg t (show (n : Int) ≠ 0 by omega)
  have e2 := Int.emod_lt_of_pos t (show 0 < (n : Int) by omega)
  obtain ⟨j, hj⟩ : ∃ j : Nat, t % (n : Int) = j := ⟨_, (Int.toNat_of_nonneg e1).symm⟩
  rw [hj] at e2
  obtain ⟨b, off, hA, hb, hcell⟩ := hI.at_ (by omega)
  subst hA
  have hc := hcell j (by omega)
  have HR : Hid (os[j]?.getD 0 = thAt os t) := by show _ = _; unfold thAt; rw [hI.len, hj]; rfl
  have HJ := Lib.hid hj
  clear hcell hj e1 h1 hv
  go_enter Try.func60, Try.ntmps60
  go_wp2_with (first | (go_at_call 77; (with_reducible refine (l02Mod_is _ _ _ _ (by omega) (by omega) HJ.out).mono ?_); rintro e w' ⟨rfl, rfl⟩))
  go_ret
  exact ⟨ret_int HR.out, rfl⟩
theorem handAt_any (A : Option Addr) (n c : Nat) (os : List Int) (t : Int) (w : World) (hI : Ints w A n os) (hv : vhd os = true) :
    Calls Try.prog 57 #[.slice A n c, .int .i64 t] w fun e w' => e = .returned (.int .i64 (thAt os t)) ∧ w = w' := by
  obtain ⟨⟨h2, h3⟩, h1, _⟩ := vhd_iff hv
  rw [hI.len] at h1 h2 h3
  have e1 := Int.emod_nonneg t (show (n : Int) ≠ 0 by omega)
  have e2 := Int.emod_lt_of_pos t (show 0 < (n : Int) by omega)
  obtain ⟨j, hj⟩ : ∃ j : Nat, t % (n : Int) = j := ⟨_, (Int.toNat_of_nonneg e1).symm⟩
  rw [hj] at e2
  obtain ⟨b, off, hA, hb, hcell⟩ := hI.at_ (by omega)
  subst hA
  have hc := hcell j (by omega)
  have HR : Hid (os[j]?.getD 0 = thAt os t) := by show _ = _; unfold thAt; rw [hI.len, hj]; rfl
  have HJ := Lib.hid hj
  clear hcell hj e1 h1 hv
  go_enter Try.func57, Try.ntmps57
  go_wp2_with (first | (go_at_call 83; (with_reducible refine (modulo_is _ _ _ _ (by omega) (by omega) HJ.out).mono ?_); rintro e w' ⟨rfl, rfl⟩))
  go_ret
  exact ⟨ret_int HR.out, rfl⟩
/-- The common period. -/
def cmp_ (n m : Nat) : Nat := Nat.lcm n m
theorem cmp_bd {n m : Nat} (hn : 1 ≤ n ∧ n ≤ 12) (hm : 1 ≤ m ∧ m ≤ 12) : 1 ≤ cmp_ n m ∧ cmp_ n m ≤ 144 := by
  unfold cmp_
  have h1 : 0 < Nat.lcm n m := Nat.lcm_pos (by omega) (by omega)
  have h2 : Nat.lcm n m ≤ n * m := Nat.le_of_dvd (Nat.mul_pos (by omega) (by omega)) (Nat.lcm_dvd_mul n m)
  have h3 : n * m ≤ 12 * 12 := Nat.mul_le_mul hn.2 hm.2
  omega
end Go.Proofs.Ytendemigegjbfaa
