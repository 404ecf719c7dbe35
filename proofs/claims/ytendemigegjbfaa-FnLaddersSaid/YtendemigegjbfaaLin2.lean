/- Pictures of throws: contracts of isPicture and l18Form. No condition but the stated bounds. -/
import Derived.Test.YtendemigegjbfaaLin
namespace Go.Proofs.Ytendemigegjbfaa
set_option linter.unusedVariables false
set_option linter.unusedSimpArgs false
open Go.RowKit Go.Joins

set_option maxHeartbeats 2000000 in
theorem isPicture_any (A : Option Addr) (n c : Nat) (ls : List ByteArray) (w : World) (hI : Strs w A n ls) :
    Calls Try.prog 46 #[.slice A n c] w fun e w' => e = .returned (.bool (lfm ls)) ∧ w = w' := by
  have hs := hI.small
  have HL := Lib.hid hI.len
  go_enter Try.func46, Try.ntmps46
  go_wp2
  go_loop [8, 4, 5] (fun i _ _ => ∃ k : Nat, k ≤ n ∧ i = .int .i64 k ∧ LTo ls k) (fun i _ _ => n - (intOf i).toNat)
  case atStart => exact ⟨0, Nat.zero_le _, rfl, fun i h => absurd h (by omega)⟩
  case round =>
    obtain ⟨k, hk, rfl, hto⟩ := hrel
    have HT := Lib.hid hto
    clear hto
    by_cases hlt : k < n
    · obtain ⟨b, off, hA, hb, hcell⟩ := hI.at_ (by omega)
      first | subst hA | (injection hA with hA; injection hA with hA1 hA2; subst hA1; subst hA2)
      have c0 := hcell 0 (by omega)
      have c1 := hcell k hlt
      rw [Nat.add_zero] at c0
      have i1 : (k : Int) < n := by omega
      have i0 : (0 : Int) < n := by omega
      clear hcell
      have hz1 := hI.sz k
      have hz0 := hI.sz 0
      have HR : Hid (¬ LRow (gs ls 0) (gs ls k) → lfm ls = false) := Lib.hid (lfm_no (by rw [HL.out]; exact hlt))
      have HN : Hid (LRow (gs ls 0) (gs ls k) → LTo ls (k + 1)) := Lib.hid (fun h => HT.out.succ h)
      generalize gs ls k = s at *
      generalize gs ls 0 = z at *
      by_cases h1 : s.size = z.size
      · have e1 : ((s.size : Int) != (z.size : Int)) = false := by simp [h1]
        by_cases h2 : 2 ≤ s.size
        · by_cases h3 : s.size ≤ 17
          · have hb0 : (s[0]'(by omega)).toNat = bt s 0 := bt_eq (by omega)
            have hb1 : (s[1]'(by omega)).toNat = bt s 1 := bt_eq (by omega)
            have hz2 : (0 : Nat) < s.size := by omega
            have hz3 : (1 : Nat) < s.size := by omega
            have hz4 : (0 : Int) < s.size := by omega
            have hz5 : (1 : Int) < s.size := by omega
            have hx0 : hxv ((s[0]'(by omega)).toNat) = hxv (bt s 0) := by rw [hb0]
            have hB0 : (s[0]'(by omega)).toNat ≤ 255 := by rw [hb0]; exact bt_bd s 0
            by_cases h4 : 0 ≤ hxv (bt s 0)
            · by_cases h5 : bt s 1 = 32
              · have H5 := Lib.hid h5
                have e5 : ((((s[1]'(by omega)).toNat : Nat) : Int) != 32) = false := by rw [hb1, h5]; rfl
                clear hb1 h5
                have HX := Lib.hid hx0
                have H4 := Lib.hid h4
                generalize hv : hxv (bt s 0) = v at *
                have hv0 : ¬ v < 0 := by omega
                clear hx0 hb0
                go_wp2_with (first | (go_at_call 74; (with_reducible refine (hexOf_is _ _ HX.out _).mono ?_); rintro e w' ⟨rfl, rfl⟩))
                go_loop [5] (fun i => ∃ j : Nat, 2 ≤ j ∧ j ≤ s.size ∧ i = .int .i64 j ∧ ∀ q, q < j → (2 ≤ q → lgc (bt s q) = true)) (fun i => s.size - (intOf i).toNat)
                case atStart => exact ⟨2, by omega, h2, rfl, fun q h h2 => absurd h (by omega)⟩
                case round =>
                  obtain ⟨j, hj2, hj, rfl, hall⟩ := hrel
                  have HA := Lib.hid hall
                  clear hall
                  by_cases hjl : j < s.size
                  · have hji : (j : Int) < s.size := by omega
                    have hbj : (s[j]'(by omega)).toNat = bt s j := bt_eq (by omega)
                    skip
                    cases hg : lgc (bt s j)
                    · have HF : Hid (lfm ls = false) := HR.out (fun a => by have := a.2.2.2.2.2 j hjl hj2; rw [hg] at this; cases this)
                      go_wp2_with (first | (go_at_call 75; (with_reducible refine (hasByte_is _ _ (by first | exact hg | (rw [hbj]; exact hg)) _).mono ?_); rintro e w' ⟨rfl, rfl⟩))
                      go_ret
                      exact ⟨ret_bool HF.out.symm, rfl⟩
                    · have HM : Hid (∀ q, q < j + 1 → (2 ≤ q → lgc (bt s q) = true)) := fun q h h2 => by
                        by_cases e : q = j
                        · rw [e]; exact hg
                        · exact HA.out q (by omega) h2
                      go_wp2_with (first | (go_at_call 75; (with_reducible refine (hasByte_is _ _ (by first | exact hg | (rw [hbj]; exact hg)) _).mono ?_); rintro e w' ⟨rfl, rfl⟩))
                      go_round
                      case rel => exact ⟨j + 1, by omega, by omega, by go_num, HM.out⟩
                      case measure => simp [intOf]; omega
                  · obtain rfl : j = s.size := by omega
                    have HK : Hid (LTo ls (k + 1)) := HN.out ⟨h1, h2, h3, by rw [hv]; exact H4.out, H5.out, HA.out⟩
                    go_wp2
                    go_round
                    case rel => exact ⟨k + 1, by omega, by go_num, HK.out⟩
                    case measure => simp [intOf]; omega
              · have e5 : ((((s[1]'(by omega)).toNat : Nat) : Int) != 32) = true := by rw [hb1]; simp; omega
                have H4 := Lib.hid h4
                have HX := Lib.hid hx0
                generalize hv : hxv (bt s 0) = v at *
                have hv0 : ¬ v < 0 := by omega
                clear hx0 hb0 hb1
                have HF : Hid (lfm ls = false) := HR.out (fun a => h5 a.2.2.2.2.1)
                go_wp2_with (first | (go_at_call 74; (with_reducible refine (hexOf_is _ _ HX.out _).mono ?_); rintro e w' ⟨rfl, rfl⟩))
                go_ret
                exact ⟨ret_bool HF.out.symm, rfl⟩
            · have HX := Lib.hid hx0
              have HF0 : Hid (lfm ls = false) := HR.out (fun a => h4 a.2.2.2.1)
              generalize hv : hxv (bt s 0) = v at *
              have hv0 : v < 0 := by omega
              clear hx0 hb0 hb1
              go_wp2_with (first | (go_at_call 74; (with_reducible refine (hexOf_is _ _ HX.out _).mono ?_); rintro e w' ⟨rfl, rfl⟩))
              go_ret
              exact ⟨ret_bool HF0.out.symm, rfl⟩
          · have HF : Hid (lfm ls = false) := HR.out (fun a => h3 a.2.2.1)
            go_wp2_with (first | (go_at_call 74; (with_reducible refine (hexOf_is _ _ HX.out _).mono ?_); rintro e w' ⟨rfl, rfl⟩))
            go_ret
            exact ⟨ret_bool HF.out.symm, rfl⟩
        · have HF : Hid (lfm ls = false) := HR.out (fun a => h2 a.2.1)
          go_wp2_with (first | (go_at_call 74; (with_reducible refine (hexOf_is _ _ HX.out _).mono ?_); rintro e w' ⟨rfl, rfl⟩))
          go_ret
          exact ⟨ret_bool HF.out.symm, rfl⟩
      · have e1 : ((s.size : Int) != (z.size : Int)) = true := by simp; omega
        by_cases h2 : 2 ≤ s.size
        · by_cases h3 : s.size ≤ 17
          · have HF : Hid (lfm ls = false) := HR.out (fun a => h1 a.1)
            go_wp2_with (first | (go_at_call 74; (with_reducible refine (hexOf_is _ _ HX.out _).mono ?_); rintro e w' ⟨rfl, rfl⟩))
            go_ret
            exact ⟨ret_bool HF.out.symm, rfl⟩
          · have HF : Hid (lfm ls = false) := HR.out (fun a => h1 a.1)
            go_wp2_with (first | (go_at_call 74; (with_reducible refine (hexOf_is _ _ HX.out _).mono ?_); rintro e w' ⟨rfl, rfl⟩))
            go_ret
            exact ⟨ret_bool HF.out.symm, rfl⟩
        · have HF : Hid (lfm ls = false) := HR.out (fun a => h1 a.1)
          go_wp2_with (first | (go_at_call 74; (with_reducible refine (hexOf_is _ _ HX.out _).mono ?_); rintro e w' ⟨rfl, rfl⟩))
          go_ret
          exact ⟨ret_bool HF.out.symm, rfl⟩
    · obtain rfl : k = n := by omega
      have HE : Hid (lfm ls = decide ((k : Int) ≤ 60)) := lfm_end HL.out HT.out
      by_cases h60 : (k : Int) ≤ 60
      · rw [decide_eq_true h60] at HE
        go_wp2
        go_ret
        exact ⟨ret_bool HE.out.symm, rfl⟩
      · rw [decide_eq_false h60] at HE
        go_wp2
        go_ret
        exact ⟨ret_bool HE.out.symm, rfl⟩
theorem isPicture_is (A : Option Addr) (n c : Nat) (ls : List ByteArray) (w : World) (hI : Strs w A n ls) (v : Bool) (h : lfm ls = v) :
    Calls Try.prog 46 #[.slice A n c] w fun e w' => e = .returned (.bool v) ∧ w = w' := by
  subst h
  exact isPicture_any A n c ls w hI
set_option maxHeartbeats 2000000 in
theorem l18Form_any (A : Option Addr) (n c : Nat) (ls : List ByteArray) (w : World) (hI : Strs w A n ls) :
    Calls Try.prog 48 #[.slice A n c] w fun e w' => e = .returned (.bool (lfm ls)) ∧ w = w' := by
  have hs := hI.small
  have HL := Lib.hid hI.len
  go_enter Try.func48, Try.ntmps48
  go_wp2
  go_loop [3, 4, 5] (fun i _ _ => ∃ k : Nat, k ≤ n ∧ i = .int .i64 k ∧ LTo ls k) (fun i _ _ => n - (intOf i).toNat)
  case atStart => exact ⟨0, Nat.zero_le _, rfl, fun i h => absurd h (by omega)⟩
  case round =>
    obtain ⟨k, hk, rfl, hto⟩ := hrel
    have HT := Lib.hid hto
    clear hto
    by_cases hlt : k < n
    · obtain ⟨b, off, hA, hb, hcell⟩ := hI.at_ (by omega)
      first | subst hA | (injection hA with hA; injection hA with hA1 hA2; subst hA1; subst hA2)
      have c0 := hcell 0 (by omega)
      have c1 := hcell k hlt
      rw [Nat.add_zero] at c0
      have i1 : (k : Int) < n := by omega
      have i0 : (0 : Int) < n := by omega
      clear hcell
      have hz1 := hI.sz k
      have hz0 := hI.sz 0
      have HR : Hid (¬ LRow (gs ls 0) (gs ls k) → lfm ls = false) := Lib.hid (lfm_no (by rw [HL.out]; exact hlt))
      have HN : Hid (LRow (gs ls 0) (gs ls k) → LTo ls (k + 1)) := Lib.hid (fun h => HT.out.succ h)
      generalize gs ls k = s at *
      generalize gs ls 0 = z at *
      by_cases h1 : s.size = z.size
      · have e1 : ((s.size : Int) != (z.size : Int)) = false := by simp [h1]
        by_cases h2 : 2 ≤ s.size
        · by_cases h3 : s.size ≤ 17
          · have hb0 : (s[0]'(by omega)).toNat = bt s 0 := bt_eq (by omega)
            have hb1 : (s[1]'(by omega)).toNat = bt s 1 := bt_eq (by omega)
            have hz2 : (0 : Nat) < s.size := by omega
            have hz3 : (1 : Nat) < s.size := by omega
            have hz4 : (0 : Int) < s.size := by omega
            have hz5 : (1 : Int) < s.size := by omega
            have hx0 : hxv ((s[0]'(by omega)).toNat) = hxv (bt s 0) := by rw [hb0]
            have hB0 : (s[0]'(by omega)).toNat ≤ 255 := by rw [hb0]; exact bt_bd s 0
            by_cases h4 : 0 ≤ hxv (bt s 0)
            · by_cases h5 : bt s 1 = 32
              · have H5 := Lib.hid h5
                have e5 : ((((s[1]'(by omega)).toNat : Nat) : Int) != 32) = false := by rw [hb1, h5]; rfl
                clear hb1 h5
                have HX := Lib.hid hx0
                have H4 := Lib.hid h4
                generalize hv : hxv (bt s 0) = v at *
                have hv0 : ¬ v < 0 := by omega
                clear hx0 hb0
                go_wp2_with (first | (go_at_call 76; (with_reducible refine (l04Value_is _ hB0 _ HX.out _).mono ?_); rintro e w' ⟨rfl, rfl⟩))
                go_loop [5] (fun i => ∃ j : Nat, 2 ≤ j ∧ j ≤ s.size ∧ i = .int .i64 j ∧ ∀ q, q < j → (2 ≤ q → lgc (bt s q) = true)) (fun i => s.size - (intOf i).toNat)
                case atStart => exact ⟨2, by omega, h2, rfl, fun q h h2 => absurd h (by omega)⟩
                case round =>
                  obtain ⟨j, hj2, hj, rfl, hall⟩ := hrel
                  have HA := Lib.hid hall
                  clear hall
                  by_cases hjl : j < s.size
                  · have hji : (j : Int) < s.size := by omega
                    have hbj : (s[j]'(by omega)).toNat = bt s j := bt_eq (by omega)
                    skip
                    cases hg : lgc (bt s j)
                    · have HF : Hid (lfm ls = false) := HR.out (fun a => by have := a.2.2.2.2.2 j hjl hj2; rw [hg] at this; cases this)
                      have hgn := hg
                      unfold lgc at hgn
                      rw [decide_eq_false_iff_not] at hgn
                      have g1 : ((((s[j]'(by omega)).toNat : Nat) : Int) != 42) = true := by rw [hbj]; simp; omega
                      have g2 : ((((s[j]'(by omega)).toNat : Nat) : Int) != 124) = true := by rw [hbj]; simp; omega
                      have g3 : ((((s[j]'(by omega)).toNat : Nat) : Int) != 46) = true := by rw [hbj]; simp; omega
                      clear hbj hgn
                      go_wp2
                      go_ret
                      exact ⟨ret_bool HF.out.symm, rfl⟩
                    · have HM : Hid (∀ q, q < j + 1 → (2 ≤ q → lgc (bt s q) = true)) := fun q h h2 => by
                        by_cases e : q = j
                        · rw [e]; exact hg
                        · exact HA.out q (by omega) h2
                      have hgn := hg
                      unfold lgc at hgn
                      rw [decide_eq_true_iff] at hgn
                      rcases hgn with g | g | g
                      · have g1 : ((((s[j]'(by omega)).toNat : Nat) : Int) != 42) = false := by rw [hbj, g]; rfl
                        clear hbj g
                        go_wp2
                        go_round
                        case rel => exact ⟨j + 1, by omega, by omega, by go_num, HM.out⟩
                        case measure => simp [intOf]; omega
                      · have g1 : ((((s[j]'(by omega)).toNat : Nat) : Int) != 42) = true := by rw [hbj, g]; rfl
                        have g2 : ((((s[j]'(by omega)).toNat : Nat) : Int) != 124) = false := by rw [hbj, g]; rfl
                        clear hbj g
                        go_wp2
                        go_round
                        case rel => exact ⟨j + 1, by omega, by omega, by go_num, HM.out⟩
                        case measure => simp [intOf]; omega
                      · have g1 : ((((s[j]'(by omega)).toNat : Nat) : Int) != 42) = true := by rw [hbj, g]; rfl
                        have g2 : ((((s[j]'(by omega)).toNat : Nat) : Int) != 124) = true := by rw [hbj, g]; rfl
                        have g3 : ((((s[j]'(by omega)).toNat : Nat) : Int) != 46) = false := by rw [hbj, g]; rfl
                        clear hbj g
                        go_wp2
                        go_round
                        case rel => exact ⟨j + 1, by omega, by omega, by go_num, HM.out⟩
                        case measure => simp [intOf]; omega
                  · obtain rfl : j = s.size := by omega
                    have HK : Hid (LTo ls (k + 1)) := HN.out ⟨h1, h2, h3, by rw [hv]; exact H4.out, H5.out, HA.out⟩
                    go_wp2
                    go_round
                    case rel => exact ⟨k + 1, by omega, by go_num, HK.out⟩
                    case measure => simp [intOf]; omega
              · have e5 : ((((s[1]'(by omega)).toNat : Nat) : Int) != 32) = true := by rw [hb1]; simp; omega
                have H4 := Lib.hid h4
                have HX := Lib.hid hx0
                generalize hv : hxv (bt s 0) = v at *
                have hv0 : ¬ v < 0 := by omega
                clear hx0 hb0 hb1
                have HF : Hid (lfm ls = false) := HR.out (fun a => h5 a.2.2.2.2.1)
                go_wp2_with (first | (go_at_call 76; (with_reducible refine (l04Value_is _ hB0 _ HX.out _).mono ?_); rintro e w' ⟨rfl, rfl⟩))
                go_ret
                exact ⟨ret_bool HF.out.symm, rfl⟩
            · have HX := Lib.hid hx0
              have HF0 : Hid (lfm ls = false) := HR.out (fun a => h4 a.2.2.2.1)
              generalize hv : hxv (bt s 0) = v at *
              have hv0 : v < 0 := by omega
              clear hx0 hb0 hb1
              go_wp2_with (first | (go_at_call 76; (with_reducible refine (l04Value_is _ hB0 _ HX.out _).mono ?_); rintro e w' ⟨rfl, rfl⟩))
              go_ret
              exact ⟨ret_bool HF0.out.symm, rfl⟩
          · have HF : Hid (lfm ls = false) := HR.out (fun a => h3 a.2.2.1)
            go_wp2_with (first | (go_at_call 76; (with_reducible refine (l04Value_is _ hB0 _ HX.out _).mono ?_); rintro e w' ⟨rfl, rfl⟩))
            go_ret
            exact ⟨ret_bool HF.out.symm, rfl⟩
        · have HF : Hid (lfm ls = false) := HR.out (fun a => h2 a.2.1)
          go_wp2_with (first | (go_at_call 76; (with_reducible refine (l04Value_is _ hB0 _ HX.out _).mono ?_); rintro e w' ⟨rfl, rfl⟩))
          go_ret
          exact ⟨ret_bool HF.out.symm, rfl⟩
      · have e1 : ((s.size : Int) != (z.size : Int)) = true := by simp; omega
        by_cases h2 : 2 ≤ s.size
        · by_cases h3 : s.size ≤ 17
          · have HF : Hid (lfm ls = false) := HR.out (fun a => h1 a.1)
            go_wp2_with (first | (go_at_call 76; (with_reducible refine (l04Value_is _ hB0 _ HX.out _).mono ?_); rintro e w' ⟨rfl, rfl⟩))
            go_ret
            exact ⟨ret_bool HF.out.symm, rfl⟩
          · have HF : Hid (lfm ls = false) := HR.out (fun a => h1 a.1)
            go_wp2_with (first | (go_at_call 76; (with_reducible refine (l04Value_is _ hB0 _ HX.out _).mono ?_); rintro e w' ⟨rfl, rfl⟩))
            go_ret
            exact ⟨ret_bool HF.out.symm, rfl⟩
        · have HF : Hid (lfm ls = false) := HR.out (fun a => h1 a.1)
          go_wp2_with (first | (go_at_call 76; (with_reducible refine (l04Value_is _ hB0 _ HX.out _).mono ?_); rintro e w' ⟨rfl, rfl⟩))
          go_ret
          exact ⟨ret_bool HF.out.symm, rfl⟩
    · obtain rfl : k = n := by omega
      have HE : Hid (lfm ls = decide ((k : Int) ≤ 60)) := lfm_end HL.out HT.out
      by_cases h60 : (k : Int) ≤ 60
      · rw [decide_eq_true h60] at HE
        go_wp2
        go_ret
        exact ⟨ret_bool HE.out.symm, rfl⟩
      · rw [decide_eq_false h60] at HE
        go_wp2
        go_ret
        exact ⟨ret_bool HE.out.symm, rfl⟩
theorem l18Form_is (A : Option Addr) (n c : Nat) (ls : List ByteArray) (w : World) (hI : Strs w A n ls) (v : Bool) (h : lfm ls = v) :
    Calls Try.prog 48 #[.slice A n c] w fun e w' => e = .returned (.bool v) ∧ w = w' := by
  subst h
  exact l18Form_any A n c ls w hI
end Go.Proofs.Ytendemigegjbfaa
