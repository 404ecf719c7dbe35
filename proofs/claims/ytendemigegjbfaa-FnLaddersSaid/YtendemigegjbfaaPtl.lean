/- Helpers of the laws on thrown props and ladders: contracts of f6big, f6ints, ThrowAt, PropsOf. No condition but the stated bounds. -/
import Derived.Test.YtendemigegjbfaaLbu
import Derived.Test.YtendemigegjbfaaPpl
import Derived.Test.YtendemigegjbfaaCol
namespace Go.Proofs.Ytendemigegjbfaa
set_option linter.unusedVariables false
set_option linter.unusedSimpArgs false
open Go.RowKit Go.Joins

theorem rowInts {w : World} {lo hi : Nat} {A : Option Addr} {n c : Nat} {xs : List Int} (h : Row w lo hi 2 1 A n c xs) (hn : n ≤ 1048576) (hb : ∀ y ∈ xs, -9223372036854775808 ≤ y ∧ y ≤ 9223372036854775807) : Ints w A n xs := by
  have := h.ints (by omega) hb
  rwa [Nat.mul_one] at this
theorem f6bigL_any (A : Option Addr) (n c : Nat) (w : World) (hn : n ≤ 9223372036854775807) :
    Calls Try.prog 5 #[.slice A n c] w fun e w' => e = .returned (.bool (decide (4096 < n))) ∧ w = w' := by
  by_cases h : 4096 < n
  · have hi : (4096 : Int) < n := by omega
    rw [decide_eq_true h]
    go_enter Try.func5, Try.ntmps5
    go_wp2
    go_ret
    exact ⟨rfl, rfl⟩
  · have hi : ¬ (4096 : Int) < n := by omega
    rw [decide_eq_false h]
    go_enter Try.func5, Try.ntmps5
    go_wp2
    go_ret
    exact ⟨rfl, rfl⟩
theorem f6intsL_same (A B : Option Addr) (n c d : Nat) (xs : List Int) (w : World) (hI : Ints w A n xs) (hJ : Ints w B n xs) :
    Calls Try.prog 17 #[.slice A n c, .slice B n d] w (fun e w' => e = .returned (.bool true) ∧ Ext w w') := by
  have hs := hI.small
  go_enter Try.func17, Try.ntmps17
  go_wp2
  go_loopw [5] (fun i wr => ∃ k : Nat, k ≤ n ∧ i = .int .i64 k ∧ Ext w wr) (fun i _ => n - (intOf i).toNat)
  case atStart => exact ⟨0, Nat.zero_le _, rfl, Ext.refl _⟩
  case round =>
    obtain ⟨k, hk, rfl, hx⟩ := hrel
    by_cases hlt : k < n
    · obtain ⟨b, off, hA, hb, hcell⟩ := (hI.ext hx).at_ (by omega)
      obtain ⟨b2, off2, hB, hb2, hcell2⟩ := (hJ.ext hx).at_ (by omega)
      subst hA hB
      have c1 := hcell k hlt
      have c2 := hcell2 k hlt
      have i1 : (k : Int) < n := by omega
      clear hcell hcell2
      go_wp2
      go_quiet (fail)
      go_wp2
      go_roundw
      case rel => exact ⟨k + 1, by omega, by go_num, Ext.trans hx (by with_reducible (repeat (first | exact Ext.refl _ | apply Ext.drewN | apply Ext.drew | apply Ext.alloc | (refine Ext.set ?_ (by first | (simp; done) | (simp; omega) | omega) _) | (refine Ext.trans ?_ (by assumption)))))⟩
      case measure => simp [intOf]; omega
    · obtain rfl : k = n := by omega
      go_wp2
      go_ret
      exact ⟨rfl, hx⟩
theorem l02CodeL_yes (A : Option Addr) (n c : Nat) (xs : List Int) (t : Int) (w : World) (hI : Ints w A n xs) (hv : Hid (vpat xs = true)) (ht : Hid (btw t (-1000000) 1000000 = true)) :
    Calls Try.prog 49 #[.slice A n c, .int .i64 t] w fun e w' => e = .returned (.int .i64 0) ∧ Ext w w' := by
  go_enter Try.func49, Try.ntmps49
  go_wp2_with fail
  (with_reducible refine (l02Ok_is A n c xs true hv.out _ hI).mono ?_)
  rintro e w1 ⟨rfl, nq, rfl⟩
  go_wp2_with (first | (go_at_call 44; (with_reducible refine (l00In_is t (-1000000) 1000000 true ht.out _).mono ?_); rintro e w' ⟨rfl, rfl⟩))
  go_ret
  exact ⟨rfl, (by with_reducible (repeat (first | exact Ext.refl _ | apply Ext.drewN | apply Ext.drew | apply Ext.alloc | (refine Ext.set ?_ (by first | (simp; done) | (simp; omega) | omega) _) | (refine Ext.trans ?_ (by assumption)))))⟩
theorem ThrowAt_yes (A : Option Addr) (n c : Nat) (xs : List Int) (t v : Int) (w : World) (hI : Ints w A n xs) (hv : Hid (vpat xs = true)) (ht : Hid (btw t (-1000000) 1000000 = true)) (hV : Hid (thAt xs t = v)) :
    Calls Try.prog 18 #[.slice A n c, .int .i64 t] w fun e w' => e = .returned (.tuple #[.int .i64 v, .int .i64 0]) ∧ Ext w w' := by
  go_enter Try.func18, Try.ntmps18
  go_wp2_with fail
  (with_reducible refine (l02CodeL_yes A n c xs t _ hI hv ht).mono ?_)
  rintro e w1 ⟨rfl, hx1⟩
  go_wp2_with fail
  (with_reducible refine (l02At_any A n c xs t _ (hI.ext hx1) hv.out).mono ?_)
  rw [hV.out]
  rintro e w2 ⟨rfl, rfl⟩
  have HX := Lib.hid hx1
  clear hx1
  go_wp2
  exact bodyPost_ret (v := .tuple #[.int .i64 v, .int .i64 0]) (by simp [results, Try.results18, go_sem, *]) rfl ⟨rfl, HX.out⟩
theorem implPropsOf_yes (A : Option Addr) (n c : Nat) (xs : List Int) (v : Int) (w : World) (hI : Ints w A n xs) (hv : Hid (vpat xs = true)) (hV : Hid (prp xs = v)) :
    Calls Try.prog 19 #[.slice A n c] w fun e w' => e = .returned (.tuple #[.int .i64 v, .int .i64 0]) ∧ Ext w w' := by
  go_enter Try.func19, Try.ntmps19
  go_wp2_with fail
  (with_reducible refine (ValidPattern_is A n c xs true hv.out _ hI).mono ?_)
  rintro e w1 ⟨rfl, hx1⟩
  go_wp2_with fail
  (with_reducible refine (propsOf_is A n c xs _ (hI.ext hx1) hv.out).mono ?_)
  rw [hV.out]
  rintro e w2 ⟨rfl, rfl⟩
  have HX := Lib.hid hx1
  clear hx1
  go_wp2
  exact bodyPost_ret (v := .tuple #[.int .i64 v, .int .i64 0]) (by simp [results, Try.results19, go_sem, *]) rfl ⟨rfl, HX.out⟩
end Go.Proofs.Ytendemigegjbfaa
