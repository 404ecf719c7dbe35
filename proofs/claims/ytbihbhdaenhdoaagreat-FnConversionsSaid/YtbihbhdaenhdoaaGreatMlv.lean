/- Validity of multiplex patterns: contracts of ValidMulti, l04Shape, l04Ok. No condition but the stated bounds. -/
import Derived.Test.YtbihbhdaenhdoaaGreatLct
namespace Go.Proofs.YtbihbhdaenhdoaaGreat
set_option linter.unusedVariables false
set_option linter.unusedSimpArgs false
open Go.ChangeShapes Go.WideShapes Go.ChangeAt Go.RowKit Go.Joins Go.Deep

/-- The first k counts are those of what is thrown. -/
def CtK (L : List (List Int)) (k : Nat) : Prop := ∀ i, i < k → ((ldL L L.length).count i : Int) = thn (ll L i)
theorem CtK.zero (L : List (List Int)) : CtK L 0 := fun i h => absurd h (by omega)
theorem CtK.succ {L : List (List Int)} {k : Nat} (h : CtK L k) (hk : ((ldL L L.length).count k : Int) = thn (ll L k)) : CtK L (k + 1) := fun i hi => by
  by_cases e : i = k
  · rw [e]; exact hk
  · exact h i (by omega)
theorem thn_bd {xs : List Int} (h : xs.length ≤ 4) : 0 ≤ thn xs ∧ thn xs ≤ 4 := by
  unfold thn
  split <;> omega
theorem cts_bd (n : Nat) (S : List Nat) (h : S.length ≤ 1000) : ∀ y ∈ cts n S, -9223372036854775808 ≤ y ∧ y ≤ 9223372036854775807 := fun y hy => by
  simp only [cts, List.mem_map, List.mem_range] at hy
  obtain ⟨j, _, rfl⟩ := hy
  have := List.count_le_length (a := j) (l := S)
  omega
theorem areStacks_is (A : Option Addr) (n c : Nat) (L : List (List Int)) (v : Bool) (hv : stks L = v) (w : World) (hI : Lists w A n L) :
    Calls Tryz.prog 89 #[.slice A n c] w fun e w' => e = .returned (.bool v) ∧ Ext w w' := by
  subst hv
  exact areStacks_any A n c L w hI
set_option maxHeartbeats 2000000 in
theorem ValidMulti_any (A : Option Addr) (n c : Nat) (L : List (List Int)) (w : World) (hI : Lists w A n L) :
    Calls Tryz.prog 53 #[.agg #[.slice A n c]] w fun e w' => e = .returned (.bool (vmul L)) ∧ Ext w w' := by
  have hl := hI.len
  have HB : Hid (w.heap.size < (w.alloc (.cells #[.slice A n c] 27)).heap.size) := by show _ < _; simp
  cases hs : stks L
  · have HF : Hid (vmul L = false) := by show _ = _; unfold vmul; rw [hs]; rfl
    go_enter Tryz.func53, Tryz.ntmps53
    go_wp2_with fail
    (with_reducible refine (areStacks_is A n c L _ hs _ (hI.ext (by with_reducible (repeat (first | exact Ext.refl _ | apply Ext.drewN | apply Ext.drew | apply Ext.alloc | (refine Ext.set ?_ (by first | (simp; done) | (simp; omega) | omega) _) | (refine Ext.trans ?_ (by assumption))))))).mono ?_)
    rintro e w1 ⟨rfl, hx⟩
    have hE : Ext w w1 := Ext.trans (by with_reducible (repeat (first | exact Ext.refl _ | apply Ext.drewN | apply Ext.drew | apply Ext.alloc | (refine Ext.set ?_ (by first | (simp; done) | (simp; omega) | omega) _) | (refine Ext.trans ?_ (by assumption))))) hx
    go_wp2
    go_ret
    exact ⟨ret_bool HF.out.symm, hE⟩
  · obtain ⟨n1, n12, hrow⟩ := stks_iff hs
    have HLL : Hid ((ldL L n).length ≤ 48) := by have := ldL_len (fun i hi => (hrow i hi).2.1) n (by omega); show _ ≤ _; omega
    rw [hl] at n1 n12
    have HROW : Hid (∀ i, i < n → 1 ≤ (ll L i).length ∧ (ll L i).length ≤ 4) := fun i hi => by
      obtain ⟨a, b, _⟩ := hrow i (by omega)
      exact ⟨a, b⟩
    have HNO : Hid (∀ i, i < n → ¬ ((ldL L n).count i : Int) = thn (ll L i) → vmul L = false) := fun i hi h => vmul_no (i := i) (by omega) (by rw [hl]; exact h)
    have HYES : Hid (CtK L n → vmul L = true) := fun h => vmul_yes hs (by rw [← hl] at h; exact h)
    have HSC : Hid (∀ k, CtK L k → ((ldL L n).count k : Int) = thn (ll L k) → CtK L (k + 1)) := fun k h h2 => h.succ (by rw [hl]; exact h2)
    clear hrow
    go_enter Tryz.func53, Tryz.ntmps53
    go_wp2_with fail
    (with_reducible refine (areStacks_is A n c L _ hs _ (hI.ext (by with_reducible (repeat (first | exact Ext.refl _ | apply Ext.drewN | apply Ext.drew | apply Ext.alloc | (refine Ext.set ?_ (by first | (simp; done) | (simp; omega) | omega) _) | (refine Ext.trans ?_ (by assumption))))))).mono ?_)
    rintro e w1 ⟨rfl, hx⟩
    have hE : Ext w w1 := Ext.trans (by with_reducible (repeat (first | exact Ext.refl _ | apply Ext.drewN | apply Ext.drew | apply Ext.alloc | (refine Ext.set ?_ (by first | (simp; done) | (simp; omega) | omega) _) | (refine Ext.trans ?_ (by assumption))))) hx
    have z1 : w.heap.size < w1.heap.size := by have := hx.size; have := HB.out; omega
    have b1 : w1.cell? ⟨w.heap.size, 0, none⟩ = some (.slice A n c) := hx.cell HB.out (by go_simp)
    clear hx
    go_wp2_with fail
    (with_reducible refine (landingCounts_any A n c L _ (hI.ext hE) hs).mono ?_)
    rintro e w2 ⟨C, d, rfl, hown⟩
    rw [cts_len] at hown ⊢
    have hJ := hown.ints (cts_len _ _) (by omega) (cts_bd n _ (by have := HLL.out; omega))
    have hE2 := hE.trans hown.ext
    have z2 : w.heap.size < w2.heap.size := by have := hown.ext.size; omega
    have b2 := hown.ext.cell z1 b1
    clear hE b1 z1 hown HB hs
    go_wp2
    go_loopw [13] (fun s wr => ∃ k : Nat, k ≤ n ∧ s = .int .i64 k ∧ CtK L k ∧ Ext w2 wr) (fun i _ => n - (intOf i).toNat)
    case atStart => exact ⟨0, Nat.zero_le _, rfl, CtK.zero L, Ext.refl _⟩
    case round =>
      obtain ⟨k, hk, rfl, hst, hx⟩ := hrel
      have HST := Lib.hid hst
      clear hst
      have b3 := hx.cell z2 b2
      have z3 := hx.size
      have z4 : w.heap.size < wr.heap.size := by omega
      have hE3 := hE2.trans hx
      by_cases hlt : k < n
      · obtain ⟨b, off, rfl, hb, hcell⟩ := (hI.ext hE3).at_ (by omega)
        obtain ⟨B, m, q, c0, hK⟩ := hcell k hlt
        obtain ⟨b', off', rfl, hb', hcell'⟩ := (hJ.ext hx).at_ (by omega)
        have e0 := hcell' k hlt
        rw [cts_get _ hlt] at e0
        have hki : (k : Int) < n := by omega
        clear hcell hcell'
        obtain ⟨m1, m4⟩ := HROW.out k hlt
        have hlen := hK.len
        rw [hlen] at m1 m4
        have HNK := Lib.hid (HNO.out k hlt)
        have HSK := Lib.hid (HSC.out k HST.out)
        have hcb : (ldL L n).count k ≤ 48 := Nat.le_trans List.count_le_length HLL.out
        have hth := thn_bd (xs := ll L k) (by omega)
        generalize (ldL L n).count k = z at e0 HNK HSK hcb
        go_wp2_with fail
        (with_reducible refine (thrown_any B m q _ _ hK m1).mono ?_)
        generalize thn (ll L k) = t at HNK HSK hth
        rintro e w4 ⟨rfl, hx4⟩
        have hE4 := hE3.trans hx4
        have hx5 := hx.trans hx4
        clear hx4
        by_cases hzt : (z : Int) = t
        · have HG := Lib.hid (HSK.out hzt)
          go_wp2
          go_roundw
          case rel => exact ⟨k + 1, by omega, by go_num, HG.out, hx5⟩
          case measure => simp [intOf]; omega
        · have HF := Lib.hid (HNK.out hzt)
          go_wp2
          go_ret
          exact ⟨ret_bool HF.out.symm, hE4⟩
      · obtain rfl : k = n := by omega
        have HF := Lib.hid (HYES.out HST.out)
        go_wp2
        go_ret
        exact ⟨ret_bool HF.out.symm, hE3⟩
set_option maxHeartbeats 4000000 in
theorem l04Shape_any (g o : Nat) (A : Option Addr) (n c : Nat) (L : List (List Int)) (w : World) (hB : MBox w g o A n c) (hI : Lists w A n L) :
    Calls Tryz.prog 99 #[.pointer (some ⟨g, o, none⟩)] w fun e w' => e = .returned (.bool (stks L)) ∧ Ext w w' := by
  obtain ⟨hg, hb0⟩ := hB
  have hsm := hI.small
  have HL := Lib.hid hI.len
  cases hr : btw (n : Int) 1 12
  · have HF : Hid (stks L = false) := by show _ = _; unfold stks; rw [HL.out, hr, Bool.and_false]
    go_enter Tryz.func99, Tryz.ntmps99
    go_wp2_with (go_at_call 29; (with_reducible refine (l00In_is _ _ _ _ hr _).mono ?_); rintro e w' ⟨rfl, rfl⟩)
    go_ret
    exact ⟨ret_bool HF.out.symm, (by with_reducible (repeat (first | exact Ext.refl _ | apply Ext.drewN | apply Ext.drew | apply Ext.alloc | (refine Ext.set ?_ (by first | (simp; done) | (simp; omega) | omega) _) | (refine Ext.trans ?_ (by assumption)))))⟩
  · have HF : Hid (AllK L n → stks L = true) := fun h => by unfold stks; rw [HL.out, hr, decide_eq_true h]; rfl
    have HN : Hid (∀ i, i < n → stk (ll L i) = false → stks L = false) := fun i hi h => stks_no (by rw [HL.out]; exact hi) h
    have hn12 := btw_iff.1 hr
    go_enter Tryz.func99, Tryz.ntmps99
    go_wp2_with (go_at_call 29; (with_reducible refine (l00In_is _ _ _ _ hr _).mono ?_); rintro e w' ⟨rfl, rfl⟩)
    clear hr
    go_loopw [3, 4, 5] (fun i i4 i5 wr => ∃ k : Nat, k ≤ n ∧ i = .int .i64 k ∧ AllK L k ∧ Ext w wr) (fun i _ _ _ => n - (intOf i).toNat)
    case atStart => exact ⟨0, Nat.zero_le _, rfl, AllK.zero L, Ext.refl _⟩
    case round =>
      obtain ⟨k, hk, rfl, hst, hx⟩ := hrel
      have HST := Lib.hid hst
      clear hst
      have b1 := hx.cell hg hb0
      have z1 := hx.size
      have z2 : g < wr.heap.size := by omega
      by_cases hlt : k < n
      · obtain ⟨b, off, rfl, hb, hcell⟩ := hI.at_ (by omega)
        obtain ⟨B, m, q, c00, hJ⟩ := hcell k hlt
        have c0 := hx.cell hb c00
        have hki : (k : Int) < n := by omega
        clear hcell
        have HLJ := Lib.hid hJ.len
        have hmm := hJ.small
        have HNK := Lib.hid (HN.out k hlt)
        have HYK : Hid (stk (ll L k) = true → AllK L (k + 1)) := fun h => HST.out.succ h
        generalize ll L k = xs at hJ HLJ HNK HYK
        cases hrm : btw (m : Int) 1 4
        · have HF2 : Hid (stks L = false) := HNK.out (by unfold stk; rw [HLJ.out, hrm, Bool.and_false])
          go_wp2_with (go_at_call 29; (with_reducible refine (l00In_is _ _ _ _ hrm _).mono ?_); rintro e w' ⟨rfl, rfl⟩)
          go_ret
          exact ⟨ret_bool HF2.out.symm, (by with_reducible (repeat (first | exact Ext.refl _ | apply Ext.drewN | apply Ext.drew | apply Ext.alloc | (refine Ext.set ?_ (by first | (simp; done) | (simp; omega) | omega) _) | (refine Ext.trans ?_ (by assumption)))))⟩
        · have HGO : Hid (StK xs m → stk xs = true) := fun h => by unfold stk; rw [HLJ.out, hrm, decide_eq_true h]; rfl
          have HNO : Hid (∀ i, i < m → stB xs i = false → stk xs = false) := fun i hi h => stk_no (by rw [HLJ.out]; exact hi) h
          have hm14 := btw_iff.1 hrm
          go_wp2_with (go_at_call 29; (with_reducible refine (l00In_is _ _ _ _ hrm _).mono ?_); rintro e w' ⟨rfl, rfl⟩)
          clear hrm
          have HX0 := Lib.hid hx
          clear hx
          go_loopw [5] (fun i wr => ∃ j : Nat, j ≤ m ∧ i = .int .i64 j ∧ StK xs j ∧ Ext w wr) (fun i _ => m - (intOf i).toNat)
          case atStart => exact ⟨0, Nat.zero_le _, rfl, StK.zero xs, HX0.out⟩
          case round =>
            clear HX0 b1 z1 z2 c0
            obtain ⟨j, hj, rfl, hst, hx⟩ := hrel
            have HSJ := Lib.hid hst
            clear hst
            have b1 := hx.cell hg hb0
            have z1 := hx.size
            have z2 : g < wr.heap.size := by omega
            have c0 := hx.cell hb c00
            have z3 : b < wr.heap.size := by omega
            by_cases hjl : j < m
            · obtain ⟨b', off', rfl, hb', hcell'⟩ := (hJ.ext hx).at_ (by omega)
              have e0 := hcell' j hjl
              have hji : (j : Int) < m := by omega
              have HNJ := Lib.hid (HNO.out j hjl)
              have HYJ : Hid (stB xs j = true → StK xs (j + 1)) := fun h => HSJ.out.succ h
              have HD : Hid (stB xs j = (btw (xs[j]?.getD 0) 0 15 && !(decide (xs[j]?.getD 0 = 0) && decide (1 < m)) && !(decide (0 < j) && decide (xs[j - 1]?.getD 0 < xs[j]?.getD 0)))) := by
                show _ = _
                unfold stB
                rw [HLJ.out]
              generalize xs[j]?.getD 0 = x at e0 HD
              cases hr : btw x 0 15
              · have HF2 : Hid (stks L = false) := HNK.out (HNJ.out (by rw [HD.out, hr]; rfl))
                clear hcell'
                go_wp2
                go_quiet ((go_at_call 29; first | with_reducible exact quiet_l (l00In_is _ _ _ _ hr _) | with_reducible exact quiet_la (l00In_is _ _ _ _ hr _)))
                go_wp2
                go_ret
                exact ⟨ret_bool HF2.out.symm, (by with_reducible (repeat (first | exact Ext.refl _ | apply Ext.drewN | apply Ext.drew | apply Ext.alloc | (refine Ext.set ?_ (by first | (simp; done) | (simp; omega) | omega) _) | (refine Ext.trans ?_ (by assumption)))))⟩
              · by_cases hz : x = 0
                · subst hz
                  have y0 : ((0 : Int) == 0) = true := rfl
                  by_cases h1 : 1 < m
                  · have hni : (1 : Int) < m := by omega
                    have hnd : decide ((1 : Int) < m) = true := decide_eq_true hni
                    have HF2 : Hid (stks L = false) := HNK.out (HNJ.out (by rw [HD.out]; simp [h1]))
                    clear hcell'
                    go_wp2
                    go_quiet ((go_at_call 29; first | with_reducible exact quiet_l (l00In_is _ _ _ _ hr _) | with_reducible exact quiet_la (l00In_is _ _ _ _ hr _)))
                    go_wp2
                    go_ret
                    exact ⟨ret_bool HF2.out.symm, (by with_reducible (repeat (first | exact Ext.refl _ | apply Ext.drewN | apply Ext.drew | apply Ext.alloc | (refine Ext.set ?_ (by first | (simp; done) | (simp; omega) | omega) _) | (refine Ext.trans ?_ (by assumption)))))⟩
                  · obtain rfl : j = 0 := by omega
                    have hn1 : ¬ (1 : Int) < m := by omega
                    have hnd : decide ((1 : Int) < m) = false := decide_eq_false hn1
                    have HG := Lib.hid (HYJ.out (by rw [HD.out, hr]; simp [h1]; try omega))
                    clear hcell'
                    rw [Nat.add_zero] at e0
                    go_wp2
                    go_quiet ((go_at_call 29; first | with_reducible exact quiet_l (l00In_is _ _ _ _ hr _) | with_reducible exact quiet_la (l00In_is _ _ _ _ hr _)))
                    go_wp2
                    go_roundw
                    case rel => exact ⟨1, by omega, rfl, HG.out, (by with_reducible (repeat (first | exact Ext.refl _ | apply Ext.drewN | apply Ext.drew | apply Ext.alloc | (refine Ext.set ?_ (by first | (simp; done) | (simp; omega) | omega) _) | (refine Ext.trans ?_ (by assumption)))))⟩
                    case measure => simp [intOf]; omega
                · have y0 : (x == 0) = false := beq_eq_false_iff_ne.2 hz
                  rcases Nat.eq_zero_or_pos j with h0 | h0
                  · subst h0
                    have HG := Lib.hid (HYJ.out (by rw [HD.out, hr]; simp [hz]))
                    clear hcell'
                    rw [Nat.add_zero] at e0
                    go_wp2
                    go_quiet ((go_at_call 29; first | with_reducible exact quiet_l (l00In_is _ _ _ _ hr _) | with_reducible exact quiet_la (l00In_is _ _ _ _ hr _)))
                    go_wp2
                    go_roundw
                    case rel => exact ⟨1, by omega, rfl, HG.out, (by with_reducible (repeat (first | exact Ext.refl _ | apply Ext.drewN | apply Ext.drew | apply Ext.alloc | (refine Ext.set ?_ (by first | (simp; done) | (simp; omega) | omega) _) | (refine Ext.trans ?_ (by assumption)))))⟩
                    case measure => simp [intOf]; omega
                  · obtain ⟨i, hi⟩ : ∃ i, j = i + 1 := ⟨j - 1, by omega⟩
                    have e1 := hcell' i (by omega)
                    have hkj : (j : Int) - 1 = i := by omega
                    have hii : (i : Int) < m := by omega
                    have him : i < m := by omega
                    have hk0 : (0 : Int) < j := by omega
                    have hkd : decide ((0 : Int) < j) = true := decide_eq_true hk0
                    have hkd2 : decide (0 < j) = true := decide_eq_true h0
                    have hw1 : IntKind.i64.wrap ((j : Int) - 1) = i := by rw [hkj]; exact IntWalk.i64_in _ (by omega)
                    rw [show j - 1 = i by omega] at HD
                    clear hcell' hi
                    generalize xs[i]?.getD 0 = y at e1 HD
                    by_cases hyx : y < x
                    · have HF2 : Hid (stks L = false) := HNK.out (HNJ.out (by rw [HD.out, hr]; simp [hz, h0, hyx]))
                      have hyd : decide (y < x) = true := decide_eq_true hyx
                      go_wp2
                      go_quiet ((go_at_call 29; first | with_reducible exact quiet_l (l00In_is _ _ _ _ hr _) | with_reducible exact quiet_la (l00In_is _ _ _ _ hr _)))
                      go_wp2
                      go_ret
                      exact ⟨ret_bool HF2.out.symm, (by with_reducible (repeat (first | exact Ext.refl _ | apply Ext.drewN | apply Ext.drew | apply Ext.alloc | (refine Ext.set ?_ (by first | (simp; done) | (simp; omega) | omega) _) | (refine Ext.trans ?_ (by assumption)))))⟩
                    · have HG := Lib.hid (HYJ.out (by rw [HD.out, hr]; simp [hz, hyx]))
                      have hyd : decide (y < x) = false := decide_eq_false hyx
                      go_wp2
                      go_quiet ((go_at_call 29; first | with_reducible exact quiet_l (l00In_is _ _ _ _ hr _) | with_reducible exact quiet_la (l00In_is _ _ _ _ hr _)))
                      go_wp2
                      go_roundw
                      case rel => exact ⟨j + 1, by omega, by go_num, HG.out, (by with_reducible (repeat (first | exact Ext.refl _ | apply Ext.drewN | apply Ext.drew | apply Ext.alloc | (refine Ext.set ?_ (by first | (simp; done) | (simp; omega) | omega) _) | (refine Ext.trans ?_ (by assumption)))))⟩
                      case measure => simp [intOf]; omega
            · obtain rfl : j = m := by omega
              have HG := Lib.hid (HYK.out (HGO.out HSJ.out))
              go_wp2
              go_roundw
              case rel => exact ⟨k + 1, by omega, by go_num, HG.out, (by with_reducible (repeat (first | exact Ext.refl _ | apply Ext.drewN | apply Ext.drew | apply Ext.alloc | (refine Ext.set ?_ (by first | (simp; done) | (simp; omega) | omega) _) | (refine Ext.trans ?_ (by assumption)))))⟩
              case measure => simp [intOf]; omega
      · obtain rfl : k = n := by omega
        have HF2 := Lib.hid (HF.out HST.out)
        go_wp2
        go_ret
        exact ⟨ret_bool HF2.out.symm, (by with_reducible (repeat (first | exact Ext.refl _ | apply Ext.drewN | apply Ext.drew | apply Ext.alloc | (refine Ext.set ?_ (by first | (simp; done) | (simp; omega) | omega) _) | (refine Ext.trans ?_ (by assumption)))))⟩
theorem l04Thrown_q (A : Option Addr) (n c : Nat) (xs : List Int) (w : World) (hI : Ints w A n xs) (hn : 1 ≤ n) (h1 : xs[0]?.getD 0 = 0 → n = 1) (v : Int) (hv : thn xs = v) :
    Calls Tryz.prog 101 #[.slice A n c] w fun e w' => e = .returned (.int .i64 v) ∧ Qt w w' := by
  subst hv
  obtain ⟨b, off, rfl, hb, hcell⟩ := hI.at_ (by omega)
  have c0 := hcell 0 (by omega)
  rw [Nat.add_zero] at c0
  have hsm := hI.small
  have HD : Hid (thn xs = if xs[0]?.getD 0 = 0 then 0 else (n : Int)) := by show _ = _; unfold thn; rw [hI.len]
  have hni : (0 : Int) < n := by omega
  clear hcell hI
  generalize xs[0]?.getD 0 = x at c0 HD h1
  by_cases hz : x = 0
  · have HF : Hid (thn xs = 0) := by show _ = _; rw [HD.out, if_pos hz]
    rw [HF.out]
    have hn1 : (n : Int) = 1 := by have := h1 hz; omega
    have hn2 : n = 1 := h1 hz
    clear HD h1
    subst hz
    go_enter Tryz.func101, Tryz.ntmps101
    go_wp2
    go_ret
    exact ⟨rfl, Qt.refl _⟩
  · have HF : Hid (thn xs = n) := by show _ = _; rw [HD.out, if_neg hz]
    rw [HF.out]
    clear HD h1
    by_cases hn2 : n = 1
    · have hn1 : (n : Int) = 1 := by omega
      go_enter Tryz.func101, Tryz.ntmps101
      go_wp2
      go_ret
      exact ⟨by rw [hn1]; rfl, Qt.refl _⟩
    · have hn1 : ¬ (n : Int) = 1 := by omega
      go_enter Tryz.func101, Tryz.ntmps101
      go_wp2
      go_ret
      exact ⟨rfl, Qt.refl _⟩
theorem l04Shape_is (g o : Nat) (A : Option Addr) (n c : Nat) (L : List (List Int)) (v : Bool) (hv : stks L = v) (w : World) (hB : MBox w g o A n c) (hI : Lists w A n L) :
    Calls Tryz.prog 99 #[.pointer (some ⟨g, o, none⟩)] w fun e w' => e = .returned (.bool v) ∧ Ext w w' := by
  subst hv
  exact l04Shape_any g o A n c L w hB hI
set_option maxHeartbeats 2000000 in
theorem l04Ok_any (g o : Nat) (A : Option Addr) (n c : Nat) (L : List (List Int)) (w : World) (hB : MBox w g o A n c) (hI : Lists w A n L) :
    Calls Tryz.prog 67 #[.pointer (some ⟨g, o, none⟩)] w fun e w' => e = .returned (.bool (vmul L)) ∧ Ext w w' := by
  have hl := hI.len
  have hg := hB.lt
  cases hs : stks L
  · have HF : Hid (vmul L = false) := by show _ = _; unfold vmul; rw [hs]; rfl
    go_enter Tryz.func67, Tryz.ntmps67
    go_wp2_with fail
    (with_reducible refine (l04Shape_is g o A n c L _ hs _ hB hI).mono ?_)
    rintro e w1 ⟨rfl, hx⟩
    go_wp2
    go_ret
    exact ⟨ret_bool HF.out.symm, hx⟩
  · obtain ⟨n1, n12, hrow⟩ := stks_iff hs
    have HLL : Hid ((ldL L n).length ≤ 48) := by have := ldL_len (fun i hi => (hrow i hi).2.1) n (by omega); show _ ≤ _; omega
    rw [hl] at n1 n12
    have HROW : Hid (∀ i, i < n → 1 ≤ (ll L i).length ∧ (ll L i).length ≤ 4 ∧ ((ll L i)[0]?.getD 0 = 0 → (ll L i).length = 1)) := fun i hi => by
      obtain ⟨a, b, _, d⟩ := hrow i (by omega)
      exact ⟨a, b, d⟩
    have HNO : Hid (∀ i, i < n → ¬ ((ldL L n).count i : Int) = thn (ll L i) → vmul L = false) := fun i hi h => vmul_no (i := i) (by omega) (by rw [hl]; exact h)
    have HYES : Hid (CtK L n → vmul L = true) := fun h => vmul_yes hs (by rw [← hl] at h; exact h)
    have HSC : Hid (∀ k, CtK L k → ((ldL L n).count k : Int) = thn (ll L k) → CtK L (k + 1)) := fun k h h2 => h.succ (by rw [hl]; exact h2)
    clear hrow
    go_enter Tryz.func67, Tryz.ntmps67
    go_wp2_with fail
    (with_reducible refine (l04Shape_is g o A n c L _ hs _ hB hI).mono ?_)
    rintro e w1 ⟨rfl, hE⟩
    go_wp2_with fail
    (with_reducible refine (l04Landings_any g o A n c L _ (hB.ext hE) (hI.ext hE) hs).mono ?_)
    rintro e w2 ⟨C, d, rfl, hown⟩
    rw [cts_len] at hown ⊢
    have hJ := hown.ints (cts_len _ _) (by omega) (cts_bd n _ (by have := HLL.out; omega))
    have hE2 := hE.trans hown.ext
    clear hE hown hs
    go_wp2
    go_loopw [4] (fun s wr => ∃ k : Nat, k ≤ n ∧ s = .int .i64 k ∧ CtK L k ∧ Ext w2 wr) (fun i _ => n - (intOf i).toNat)
    case atStart => exact ⟨0, Nat.zero_le _, rfl, CtK.zero L, Ext.refl _⟩
    case round =>
      obtain ⟨k, hk, rfl, hst, hx⟩ := hrel
      have HST := Lib.hid hst
      clear hst
      have hE3 := hE2.trans hx
      have z3 := hE3.size
      have z4 : g < wr.heap.size := by omega
      have b3 := hE3.cell hg hB.c0
      by_cases hlt : k < n
      · obtain ⟨b, off, rfl, hb, hcell⟩ := (hI.ext hE3).at_ (by omega)
        obtain ⟨B, m, q, c0, hK⟩ := hcell k hlt
        obtain ⟨b', off', rfl, hb', hcell'⟩ := (hJ.ext hx).at_ (by omega)
        have e0 := hcell' k hlt
        rw [cts_get _ hlt] at e0
        have hki : (k : Int) < n := by omega
        clear hcell hcell'
        obtain ⟨m1, m4, m0⟩ := HROW.out k hlt
        have hlen := hK.len
        rw [hlen] at m1 m4 m0
        have HNK := Lib.hid (HNO.out k hlt)
        have HSK := Lib.hid (HSC.out k HST.out)
        have hcb : (ldL L n).count k ≤ 48 := Nat.le_trans List.count_le_length HLL.out
        have hth := thn_bd (xs := ll L k) (by omega)
        generalize (ldL L n).count k = z at e0 HNK HSK hcb
        obtain ⟨t, ht⟩ : ∃ t, thn (ll L k) = t := ⟨_, rfl⟩
        have HT := Lib.hid ht
        have HM0 := Lib.hid m0
        clear m0
        rw [ht] at HNK HSK hth
        clear ht
        by_cases hzt : (z : Int) = t
        · have HG := Lib.hid (HSK.out hzt)
          have hzb : ((z : Int) == t) = true := by simpa using hzt
          go_wp2
          go_quiet ((go_at_call 101; first | with_reducible exact quiet_q (l04Thrown_q B m q _ _ (hK.ext (by with_reducible (repeat (first | exact Ext.refl _ | apply Ext.drewN | apply Ext.drew | apply Ext.alloc | (refine Ext.set ?_ (by first | (simp; done) | (simp; omega) | omega) _) | (refine Ext.trans ?_ (by assumption)))))) m1 HM0.out t HT.out) | with_reducible exact quiet_qa (l04Thrown_q B m q _ _ (hK.ext (by with_reducible (repeat (first | exact Ext.refl _ | apply Ext.drewN | apply Ext.drew | apply Ext.alloc | (refine Ext.set ?_ (by first | (simp; done) | (simp; omega) | omega) _) | (refine Ext.trans ?_ (by assumption)))))) m1 HM0.out t HT.out)))
          go_wp2
          go_roundw
          case rel => exact ⟨k + 1, by omega, by go_num, HG.out, by with_reducible (first | exact hx | exact hx.drewN _)⟩
          case measure => simp [intOf]; omega
        · have HF := Lib.hid (HNK.out hzt)
          have hzb : ((z : Int) == t) = false := by simpa using hzt
          go_wp2
          go_quiet ((go_at_call 101; first | with_reducible exact quiet_q (l04Thrown_q B m q _ _ (hK.ext (by with_reducible (repeat (first | exact Ext.refl _ | apply Ext.drewN | apply Ext.drew | apply Ext.alloc | (refine Ext.set ?_ (by first | (simp; done) | (simp; omega) | omega) _) | (refine Ext.trans ?_ (by assumption)))))) m1 HM0.out t HT.out) | with_reducible exact quiet_qa (l04Thrown_q B m q _ _ (hK.ext (by with_reducible (repeat (first | exact Ext.refl _ | apply Ext.drewN | apply Ext.drew | apply Ext.alloc | (refine Ext.set ?_ (by first | (simp; done) | (simp; omega) | omega) _) | (refine Ext.trans ?_ (by assumption)))))) m1 HM0.out t HT.out)))
          go_wp2
          go_ret
          exact ⟨ret_bool HF.out.symm, (by with_reducible (repeat (first | exact Ext.refl _ | apply Ext.drewN | apply Ext.drew | apply Ext.alloc | (refine Ext.set ?_ (by first | (simp; done) | (simp; omega) | omega) _) | (refine Ext.trans ?_ (by assumption)))))⟩
      · obtain rfl : k = n := by omega
        have HF := Lib.hid (HYES.out HST.out)
        go_wp2
        go_ret
        exact ⟨ret_bool HF.out.symm, (by with_reducible (repeat (first | exact Ext.refl _ | apply Ext.drewN | apply Ext.drew | apply Ext.alloc | (refine Ext.set ?_ (by first | (simp; done) | (simp; omega) | omega) _) | (refine Ext.trans ?_ (by assumption)))))⟩
end Go.Proofs.YtbihbhdaenhdoaaGreat
