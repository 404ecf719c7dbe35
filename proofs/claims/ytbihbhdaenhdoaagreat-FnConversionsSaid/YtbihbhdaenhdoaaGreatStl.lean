/- Whether rows are beats of a multiplex pattern, and how many props a beat throws: areStacks, thrown, l04Thrown. No condition but the stated bounds. -/
import Derived.Test.YtbihbhdaenhdoaaGreatStk
namespace Go.Proofs.YtbihbhdaenhdoaaGreat
set_option linter.unusedVariables false
set_option linter.unusedSimpArgs false
open Go.ChangeShapes Go.WideShapes Go.ChangeAt Go.RowKit Go.Joins Go.Deep

def AllK (L : List (List Int)) (k : Nat) : Prop := ∀ i, i < k → stk (ll L i) = true
instance (L : List (List Int)) (k : Nat) : Decidable (AllK L k) := by unfold AllK; infer_instance
/-- Rows are beats. -/
def stks (L : List (List Int)) : Bool := decide (AllK L L.length) && btw (L.length : Int) 1 12
theorem AllK.zero (L : List (List Int)) : AllK L 0 := fun i h => absurd h (by omega)
theorem AllK.succ {L : List (List Int)} {k : Nat} (h : AllK L k) (hk : stk (ll L k) = true) : AllK L (k + 1) := fun i hi => by
  by_cases e : i = k
  · rw [e]; exact hk
  · exact h i (by omega)
theorem stks_no {L : List (List Int)} {k : Nat} (hk : k < L.length) (h : stk (ll L k) = false) : stks L = false := by
  unfold stks
  rw [decide_eq_false (fun h' => by rw [h' k hk] at h; cases h)]
  rfl
/-- How many props a beat throws. -/
def thn (xs : List Int) : Int := if xs[0]?.getD 0 = 0 then 0 else xs.length
theorem isStack_is (A : Option Addr) (n c : Nat) (xs : List Int) (v : Bool) (hv : stk xs = v) (w : World) (hI : Ints w A n xs) :
    Calls Tryz.prog 117 #[.slice A n c] w fun e w' => e = .returned (.bool v) ∧ Ext w w' := by
  subst hv
  exact isStack_any A n c xs w hI
set_option maxHeartbeats 1000000 in
theorem areStacks_any (A : Option Addr) (n c : Nat) (L : List (List Int)) (w : World) (hI : Lists w A n L) :
    Calls Tryz.prog 89 #[.slice A n c] w fun e w' => e = .returned (.bool (stks L)) ∧ Ext w w' := by
  have hsm := hI.small
  have HL := Lib.hid hI.len
  go_enter Tryz.func89, Tryz.ntmps89
  go_wp2
  go_loopw [7] (fun i wr => ∃ k : Nat, k ≤ n ∧ i = .int .i64 k ∧ AllK L k ∧ Ext w wr) (fun i _ => n - (intOf i).toNat)
  case atStart => exact ⟨0, Nat.zero_le _, rfl, AllK.zero L, Ext.refl _⟩
  case round =>
    obtain ⟨k, hk, rfl, hst, hx⟩ := hrel
    have HST := Lib.hid hst
    clear hst
    by_cases hlt : k < n
    · obtain ⟨b, off, rfl, hb, hcell⟩ := (hI.ext hx).at_ (by omega)
      obtain ⟨B, m, d, c0, hJ⟩ := hcell k hlt
      have hki : (k : Int) < n := by omega
      clear hcell
      cases hv : stk (ll L k)
      · have HF : Hid (stks L = false) := stks_no (by rw [HL.out]; exact hlt) hv
        go_wp2_with fail
        (with_reducible refine (isStack_is B m d _ _ hv _ hJ).mono ?_)
        rintro e w1 ⟨rfl, hx1⟩
        have hE := hx.trans hx1
        clear hx1
        go_wp2
        go_ret
        exact ⟨ret_bool HF.out.symm, hE⟩
      · have HG := Lib.hid (HST.out.succ hv)
        go_wp2_with fail
        (with_reducible refine (isStack_is B m d _ _ hv _ hJ).mono ?_)
        rintro e w1 ⟨rfl, hx1⟩
        have hE := hx.trans hx1
        clear hx1
        go_wp2
        go_roundw
        case rel => exact ⟨k + 1, by omega, by go_num, HG.out, hE⟩
        case measure => simp [intOf]; omega
    · obtain rfl : k = n := by omega
      have hd : decide (AllK L L.length) = true := decide_eq_true (by rw [HL.out]; exact HST.out)
      cases hr : btw (k : Int) 1 12
      · have HF : Hid (stks L = false) := by show _ = _; unfold stks; rw [hd, HL.out, hr]; rfl
        clear hd
        go_wp2_with (go_at_call 21; (with_reducible refine (between_is _ _ _ _ hr _).mono ?_); rintro e w' ⟨rfl, rfl⟩)
        go_ret
        exact ⟨ret_bool HF.out.symm, (by with_reducible (repeat (first | exact Ext.refl _ | apply Ext.drewN | apply Ext.drew | apply Ext.alloc | (refine Ext.set ?_ (by first | (simp; done) | (simp; omega) | omega) _) | (refine Ext.trans ?_ (by assumption)))))⟩
      · have HF : Hid (stks L = true) := by show _ = _; unfold stks; rw [hd, HL.out, hr]; rfl
        clear hd
        go_wp2_with (go_at_call 21; (with_reducible refine (between_is _ _ _ _ hr _).mono ?_); rintro e w' ⟨rfl, rfl⟩)
        go_ret
        exact ⟨ret_bool HF.out.symm, (by with_reducible (repeat (first | exact Ext.refl _ | apply Ext.drewN | apply Ext.drew | apply Ext.alloc | (refine Ext.set ?_ (by first | (simp; done) | (simp; omega) | omega) _) | (refine Ext.trans ?_ (by assumption)))))⟩
theorem thrown_any (A : Option Addr) (n c : Nat) (xs : List Int) (w : World) (hI : Ints w A n xs) (hn : 1 ≤ n) :
    Calls Tryz.prog 91 #[.slice A n c] w fun e w' => e = .returned (.int .i64 (thn xs)) ∧ Ext w w' := by
  obtain ⟨b, off, rfl, hb, hcell⟩ := hI.at_ (by omega)
  have c0 := hcell 0 (by omega)
  rw [Nat.add_zero] at c0
  have hsm := hI.small
  have HD : Hid (thn xs = if xs[0]?.getD 0 = 0 then 0 else (n : Int)) := by show _ = _; unfold thn; rw [hI.len]
  have hni : (0 : Int) < n := by omega
  clear hcell hI
  generalize xs[0]?.getD 0 = x at c0 HD
  by_cases hz : x = 0
  · have HF : Hid (thn xs = 0) := by show _ = _; rw [HD.out, if_pos hz]
    rw [HF.out]
    clear HD
    subst hz
    go_enter Tryz.func91, Tryz.ntmps91
    go_wp2
    go_ret
    exact ⟨rfl, (by with_reducible (repeat (first | exact Ext.refl _ | apply Ext.drewN | apply Ext.drew | apply Ext.alloc | (refine Ext.set ?_ (by first | (simp; done) | (simp; omega) | omega) _) | (refine Ext.trans ?_ (by assumption)))))⟩
  · have HF : Hid (thn xs = n) := by show _ = _; rw [HD.out, if_neg hz]
    rw [HF.out]
    clear HD
    go_enter Tryz.func91, Tryz.ntmps91
    go_wp2
    go_ret
    exact ⟨rfl, (by with_reducible (repeat (first | exact Ext.refl _ | apply Ext.drewN | apply Ext.drew | apply Ext.alloc | (refine Ext.set ?_ (by first | (simp; done) | (simp; omega) | omega) _) | (refine Ext.trans ?_ (by assumption)))))⟩
theorem l04Thrown_any (A : Option Addr) (n c : Nat) (xs : List Int) (w : World) (hI : Ints w A n xs) (hn : 1 ≤ n) (h1 : xs[0]?.getD 0 = 0 → n = 1) :
    Calls Tryz.prog 101 #[.slice A n c] w fun e w' => e = .returned (.int .i64 (thn xs)) ∧ Ext w w' := by
  obtain ⟨b, off, rfl, hb, hcell⟩ := hI.at_ (by omega)
  have c0 := hcell 0 (by omega)
  rw [Nat.add_zero] at c0
  have hsm := hI.small
  have HD : Hid (thn xs = if xs[0]?.getD 0 = 0 then 0 else (n : Int)) := by show _ = _; unfold thn; rw [hI.len]
  have hni : (0 : Int) < n := by omega
  clear hcell hI
  generalize xs[0]?.getD 0 = x at c0 HD h1
  by_cases hz : x = 0
  · have HF : Hid (thn xs = 0) := by show _ = _; rw [HD.out, if_pos hz]
    rw [HF.out]
    have hn1 : (n : Int) = 1 := by have := h1 hz; omega
    have hn2 : n = 1 := h1 hz
    clear HD h1
    subst hz
    go_enter Tryz.func101, Tryz.ntmps101
    go_wp2
    go_ret
    exact ⟨rfl, (by with_reducible (repeat (first | exact Ext.refl _ | apply Ext.drewN | apply Ext.drew | apply Ext.alloc | (refine Ext.set ?_ (by first | (simp; done) | (simp; omega) | omega) _) | (refine Ext.trans ?_ (by assumption)))))⟩
  · have HF : Hid (thn xs = n) := by show _ = _; rw [HD.out, if_neg hz]
    rw [HF.out]
    clear HD h1
    by_cases hn2 : n = 1
    · have hn1 : (n : Int) = 1 := by omega
      go_enter Tryz.func101, Tryz.ntmps101
      go_wp2
      go_ret
      exact ⟨by rw [hn1]; rfl, (by with_reducible (repeat (first | exact Ext.refl _ | apply Ext.drewN | apply Ext.drew | apply Ext.alloc | (refine Ext.set ?_ (by first | (simp; done) | (simp; omega) | omega) _) | (refine Ext.trans ?_ (by assumption)))))⟩
    · have hn1 : ¬ (n : Int) = 1 := by omega
      go_enter Tryz.func101, Tryz.ntmps101
      go_wp2
      go_ret
      exact ⟨rfl, (by with_reducible (repeat (first | exact Ext.refl _ | apply Ext.drewN | apply Ext.drew | apply Ext.alloc | (refine Ext.set ?_ (by first | (simp; done) | (simp; omega) | omega) _) | (refine Ext.trans ?_ (by assumption)))))⟩
end Go.Proofs.YtbihbhdaenhdoaaGreat
