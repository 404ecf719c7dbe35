/- Whether throws are a beat of a multiplex pattern: plain words, and the contract of isStack. No condition but the stated bounds. -/
import Derived.Test.YtbihbhdaenhdoaaGreatMul
namespace Go.Proofs.YtbihbhdaenhdoaaGreat
set_option linter.unusedVariables false
set_option linter.unusedSimpArgs false
open Go.ChangeShapes Go.WideShapes Go.ChangeAt Go.RowKit Go.Joins Go.Deep

/-- The throw with number i is right in its beat. -/
def stB (xs : List Int) (i : Nat) : Bool := btw (xs[i]?.getD 0) 0 15 && !(decide (xs[i]?.getD 0 = 0) && decide (1 < xs.length)) && !(decide (0 < i) && decide (xs[i - 1]?.getD 0 < xs[i]?.getD 0))
def StK (xs : List Int) (k : Nat) : Prop := ∀ i, i < k → stB xs i = true
instance (xs : List Int) (k : Nat) : Decidable (StK xs k) := by unfold StK; infer_instance
/-- Throws are a beat. -/
def stk (xs : List Int) : Bool := decide (StK xs xs.length) && btw (xs.length : Int) 1 4
theorem StK.zero (xs : List Int) : StK xs 0 := fun i h => absurd h (by omega)
theorem StK.succ {xs : List Int} {k : Nat} (h : StK xs k) (hk : stB xs k = true) : StK xs (k + 1) := fun i hi => by
  by_cases e : i = k
  · rw [e]; exact hk
  · exact h i (by omega)
theorem stk_no {xs : List Int} {k : Nat} (hk : k < xs.length) (h : stB xs k = false) : stk xs = false := by
  unfold stk
  rw [decide_eq_false (fun h' => by rw [h' k hk] at h; cases h)]
  rfl
set_option maxHeartbeats 2000000 in
theorem isStack_any (A : Option Addr) (n c : Nat) (xs : List Int) (w : World) (hI : Ints w A n xs) :
    Calls Tryz.prog 117 #[.slice A n c] w fun e w' => e = .returned (.bool (stk xs)) ∧ Ext w w' := by
  have hsm := hI.small
  have HL := Lib.hid hI.len
  go_enter Tryz.func117, Tryz.ntmps117
  go_wp2
  go_loopw [7] (fun i wr => ∃ k : Nat, k ≤ n ∧ i = .int .i64 k ∧ StK xs k ∧ Ext w wr) (fun i _ => n - (intOf i).toNat)
  case atStart => exact ⟨0, Nat.zero_le _, rfl, StK.zero xs, Ext.refl _⟩
  case round =>
    obtain ⟨k, hk, rfl, hst, hx⟩ := hrel
    have HST := Lib.hid hst
    clear hst
    by_cases hlt : k < n
    · obtain ⟨b, off, rfl, hb, hcell⟩ := (hI.ext hx).at_ (by omega)
      have c0 := hcell k hlt
      have hki : (k : Int) < n := by omega
      have HNO : Hid (stB xs k = false → stk xs = false) := fun h => stk_no (by rw [HL.out]; exact hlt) h
      have HYES : Hid (stB xs k = true → StK xs (k + 1)) := fun h => HST.out.succ h
      have HD : Hid (stB xs k = (btw (xs[k]?.getD 0) 0 15 && !(decide (xs[k]?.getD 0 = 0) && decide (1 < n)) && !(decide (0 < k) && decide (xs[k - 1]?.getD 0 < xs[k]?.getD 0)))) := by
        show _ = _
        unfold stB
        rw [HL.out]
      generalize xs[k]?.getD 0 = x at c0 HD
      cases hr : btw x 0 15
      · have HF : Hid (stk xs = false) := HNO.out (by rw [HD.out, hr]; rfl)
        clear hcell
        go_wp2_with (go_at_call 21; (with_reducible refine (between_is _ _ _ _ hr _).mono ?_); rintro e w' ⟨rfl, rfl⟩)
        go_ret
        exact ⟨ret_bool HF.out.symm, (by with_reducible (repeat (first | exact Ext.refl _ | apply Ext.drewN | apply Ext.drew | apply Ext.alloc | (refine Ext.set ?_ (by first | (simp; done) | (simp; omega) | omega) _) | (refine Ext.trans ?_ (by assumption)))))⟩
      · by_cases hz : x = 0
        · subst hz
          by_cases h1 : 1 < n
          · have hni : (1 : Int) < n := by omega
            have HF : Hid (stk xs = false) := HNO.out (by rw [HD.out]; simp [h1])
            clear hcell
            go_wp2_with (go_at_call 21; (with_reducible refine (between_is _ _ _ _ hr _).mono ?_); rintro e w' ⟨rfl, rfl⟩)
            go_ret
            exact ⟨ret_bool HF.out.symm, (by with_reducible (repeat (first | exact Ext.refl _ | apply Ext.drewN | apply Ext.drew | apply Ext.alloc | (refine Ext.set ?_ (by first | (simp; done) | (simp; omega) | omega) _) | (refine Ext.trans ?_ (by assumption)))))⟩
          · obtain rfl : k = 0 := by omega
            have hn1 : ¬ (1 : Int) < n := by omega
            have hn2 : ¬ 1 < n := by omega
            have HG := Lib.hid (HYES.out (by rw [HD.out, hr]; simp [h1]; try omega))
            clear hcell
            rw [Nat.add_zero] at c0
            go_wp2_with (go_at_call 21; (with_reducible refine (between_is _ _ _ _ hr _).mono ?_); rintro e w' ⟨rfl, rfl⟩)
            go_roundw
            case rel => exact ⟨1, by omega, rfl, HG.out, (by with_reducible (repeat (first | exact Ext.refl _ | apply Ext.drewN | apply Ext.drew | apply Ext.alloc | (refine Ext.set ?_ (by first | (simp; done) | (simp; omega) | omega) _) | (refine Ext.trans ?_ (by assumption)))))⟩
            case measure => simp [intOf]; omega
        · rcases Nat.eq_zero_or_pos k with h0 | h0
          · subst h0
            have HG := Lib.hid (HYES.out (by rw [HD.out, hr]; simp [hz]))
            clear hcell
            rw [Nat.add_zero] at c0
            go_wp2_with (go_at_call 21; (with_reducible refine (between_is _ _ _ _ hr _).mono ?_); rintro e w' ⟨rfl, rfl⟩)
            go_roundw
            case rel => exact ⟨1, by omega, rfl, HG.out, (by with_reducible (repeat (first | exact Ext.refl _ | apply Ext.drewN | apply Ext.drew | apply Ext.alloc | (refine Ext.set ?_ (by first | (simp; done) | (simp; omega) | omega) _) | (refine Ext.trans ?_ (by assumption)))))⟩
            case measure => simp [intOf]; omega
          · obtain ⟨j, hj⟩ : ∃ j, k = j + 1 := ⟨k - 1, by omega⟩
            have c1 := hcell j (by omega)
            have hkj : (k : Int) - 1 = j := by omega
            have hji : (j : Int) < n := by omega
            have hjn : j < n := by omega
            have hk0 : (0 : Int) < k := by omega
            have hw1 : IntKind.i64.wrap ((k : Int) - 1) = j := by rw [hkj]; exact IntWalk.i64_in _ (by omega)
            rw [show k - 1 = j by omega] at HD
            clear hcell hj
            generalize xs[j]?.getD 0 = y at c1 HD
            by_cases hyx : y < x
            · have HF : Hid (stk xs = false) := HNO.out (by rw [HD.out, hr]; simp [hz, h0, hyx])
              go_wp2_with (go_at_call 21; (with_reducible refine (between_is _ _ _ _ hr _).mono ?_); rintro e w' ⟨rfl, rfl⟩)
              go_ret
              exact ⟨ret_bool HF.out.symm, (by with_reducible (repeat (first | exact Ext.refl _ | apply Ext.drewN | apply Ext.drew | apply Ext.alloc | (refine Ext.set ?_ (by first | (simp; done) | (simp; omega) | omega) _) | (refine Ext.trans ?_ (by assumption)))))⟩
            · have HG := Lib.hid (HYES.out (by rw [HD.out, hr]; simp [hz, hyx]))
              go_wp2_with (go_at_call 21; (with_reducible refine (between_is _ _ _ _ hr _).mono ?_); rintro e w' ⟨rfl, rfl⟩)
              go_roundw
              case rel => exact ⟨k + 1, by omega, by go_num, HG.out, (by with_reducible (repeat (first | exact Ext.refl _ | apply Ext.drewN | apply Ext.drew | apply Ext.alloc | (refine Ext.set ?_ (by first | (simp; done) | (simp; omega) | omega) _) | (refine Ext.trans ?_ (by assumption)))))⟩
              case measure => simp [intOf]; omega
    · obtain rfl : k = n := by omega
      have hd : decide (StK xs xs.length) = true := decide_eq_true (by rw [HL.out]; exact HST.out)
      cases hr : btw (k : Int) 1 4
      · have HF : Hid (stk xs = false) := by show _ = _; unfold stk; rw [hd, HL.out, hr]; rfl
        clear hd
        go_wp2_with (go_at_call 21; (with_reducible refine (between_is _ _ _ _ hr _).mono ?_); rintro e w' ⟨rfl, rfl⟩)
        go_ret
        exact ⟨ret_bool HF.out.symm, (by with_reducible (repeat (first | exact Ext.refl _ | apply Ext.drewN | apply Ext.drew | apply Ext.alloc | (refine Ext.set ?_ (by first | (simp; done) | (simp; omega) | omega) _) | (refine Ext.trans ?_ (by assumption)))))⟩
      · have HF : Hid (stk xs = true) := by show _ = _; unfold stk; rw [hd, HL.out, hr]; rfl
        clear hd
        go_wp2_with (go_at_call 21; (with_reducible refine (between_is _ _ _ _ hr _).mono ?_); rintro e w' ⟨rfl, rfl⟩)
        go_ret
        exact ⟨ret_bool HF.out.symm, (by with_reducible (repeat (first | exact Ext.refl _ | apply Ext.drewN | apply Ext.drew | apply Ext.alloc | (refine Ext.set ?_ (by first | (simp; done) | (simp; omega) | omega) _) | (refine Ext.trans ?_ (by assumption)))))⟩
end Go.Proofs.YtbihbhdaenhdoaaGreat
