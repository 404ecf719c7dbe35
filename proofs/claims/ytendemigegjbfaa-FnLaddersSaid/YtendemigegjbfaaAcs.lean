/- How many props are in the air at the beats: contracts of AirCounts. No condition but the stated bounds. -/
import Derived.Test.YtendemigegjbfaaPra
namespace Go.Proofs.Ytendemigegjbfaa
set_option linter.unusedVariables false
set_option linter.unusedSimpArgs false
open Go.RowKit

def acl (h : Int → Int) (k : Nat) : List Int := (List.range k).map (airc h)
theorem acl_succ (h : Int → Int) (k : Nat) : acl h (k + 1) = acl h k ++ [airc h k] := by simp [acl, List.range_succ]
/-- What AirCounts gives. -/
def acs (xs : List Int) (t : Int) : List Int := if rcd xs t = 0 then acl (thAt xs) t.toNat else []
theorem acs_bd (xs : List Int) (t : Int) : thpn xs t ≤ 1048576 ∧ ∀ y ∈ acs xs t, -9223372036854775808 ≤ y ∧ y ≤ 9223372036854775807 := by
  refine ⟨(thps_bd xs t).1, ?_⟩
  unfold acs
  split
  · rename_i hr
    obtain ⟨hv, ht⟩ := rcd_zero hr
    intro y hy
    simp only [acl, List.mem_map, List.mem_range] at hy
    obtain ⟨i, hi, rfl⟩ := hy
    have := airc_bd (thAt_endless hv) i
    omega
  · simp
/-- The character of a prop at a beat. -/
def chr (h : Int → Int) (b : Nat) (p : Int) : Int := if plr h b = p then 42 else if p < (pls h b).2 then 124 else 46
set_option maxHeartbeats 1000000 in
theorem l18Char_any (A : Option Addr) (t c : Nat) (xs : List Int) (p : Int) (b : Nat) (w : World) (hJ : Ints w A t (pls (thAt xs) t).1) (hv : vpat xs = true) (hb : b < t) (hp : 0 ≤ p) (ht : t ≤ 1000) :
    Calls Try.prog 38 #[.slice A t c, .int .i64 p, .int .i64 b] w fun e w' => e = .returned (.int .u8 (chr (thAt xs) b p)) ∧ w = w' := by
  obtain ⟨g, off, rfl, hg, hcell⟩ := hJ.at_ (by omega)
  have hcb := hcell b hb
  rw [pls_get (thAt xs) hb] at hcb
  have HC := Lib.hid hcell
  clear hcell
  have HV := Lib.hid hv
  clear hv
  have hbt : (b : Int) < t := by omega
  by_cases h0 : plr (thAt xs) b = p
  · have HR : Hid (chr (thAt xs) b p = 42) := if_pos h0
    have heq : (plr (thAt xs) b == p) = true := by simpa using h0
    generalize plr (thAt xs) b = y at *
    subst h0
    go_enter Try.func38, Try.ntmps38
    go_wp2
    go_ret
    exact ⟨ret_int HR.out.symm, rfl⟩
  · have heq : (plr (thAt xs) b == p) = false := by simpa using h0
    have HR : Hid (chr (thAt xs) b p = if p < (pls (thAt xs) b).2 then 124 else 46) := if_neg h0
    clear h0
    generalize plr (thAt xs) b = y at *
    go_enter Try.func38, Try.ntmps38
    go_wp2
    go_loop [7] (fun i => ∃ k : Nat, k ≤ b ∧ i = .int .i64 k ∧ ∀ i, i < k → ¬ plr (thAt xs) i = p) (fun i => b - (intOf i).toNat)
    case atStart => exact ⟨0, Nat.zero_le _, rfl, fun i hi => absurd hi (by omega)⟩
    case round =>
      obtain ⟨k, hk, rfl, hno⟩ := hrel
      by_cases hlt : k < b
      · have hc := HC.out k (by omega)
        rw [pls_get (thAt xs) (show k < t by omega)] at hc
        have hkt : (k : Int) < t := by omega
        have HN := Lib.hid hno
        clear hno
        by_cases h1 : plr (thAt xs) k = p
        · have hs : p < (pls (thAt xs) b).2 := (seen_iff (thAt_endless HV.out) b hp).1 ⟨k, hlt, h1⟩
          have HS : Hid (chr (thAt xs) b p = 124) := by show _ = _; rw [HR.out, if_pos hs]
          have heq : (plr (thAt xs) k == p) = true := by simpa using h1
          clear hs
          generalize plr (thAt xs) k = z at *
          subst h1
          go_wp2
          go_ret
          exact ⟨ret_int HS.out.symm, rfl⟩
        · have HN2 : Hid (∀ i, i < k + 1 → ¬ plr (thAt xs) i = p) := fun i hi => by
            by_cases e : i = k
            · rw [e]; exact h1
            · exact HN.out i (by omega)
          have heq : (plr (thAt xs) k == p) = false := by simpa using h1
          clear h1
          generalize plr (thAt xs) k = z at *
          go_wp2
          go_round
          case rel => exact ⟨k + 1, by omega, by go_num, HN2.out⟩
          case measure => simp [intOf]; omega
      · obtain rfl : k = b := by omega
        have hs : ¬ p < (pls (thAt xs) k).2 := fun h => by
          obtain ⟨i, hi, hq⟩ := (seen_iff (thAt_endless HV.out) k hp).2 h
          exact hno i hi hq
        have HS : Hid (chr (thAt xs) k p = 46) := by show _ = _; rw [HR.out, if_neg hs]
        clear hs hno
        go_wp2
        go_ret
        exact ⟨ret_int HS.out.symm, rfl⟩
set_option maxHeartbeats 2000000 in
theorem specAirCounts_yes (A : Option Addr) (n c : Nat) (xs : List Int) (t : Nat) (w : World) (hI : Ints w A n xs) (hr : rcd xs t = 0) :
    Calls Try.prog 10 #[.slice A n c, .int .i64 t] w (RetRow w 2 1 t (acl (thAt xs) t) 0) := by
  obtain ⟨hv, ht0, ht⟩ := rcd_zero hr
  have HV := Lib.hid hv
  have HC := Lib.hid hr
  have hpb := prp_bd hv
  clear hr hv
  go_enter Try.func10, Try.ntmps10
  go_wp2_with (first | (go_at_call 35; (with_reducible refine (l18Code_is _ _ _ xs _ _ (hI.ext (by with_reducible (repeat (first | exact Ext.refl _ | apply Ext.drewN | apply Ext.drew | apply Ext.alloc | (refine Ext.set ?_ (by first | (simp; done) | (simp; omega) | omega) _) | (refine Ext.trans ?_ (by assumption)))))) 0 HC).mono ?_); rintro e w1 ⟨rfl, hx⟩; have hz := hx.size; (try simp at hz); (try (have hq0 : w.heap.size < w1.heap.size := by omega)); (try (have hc0 : ∀ o, w1.cell? ⟨w.heap.size, o, none⟩ = _ := fun o => hx.cells.1 _ o (by first | (simp; done) | (simp; omega) | omega))); (try (have hf0 : ∀ o, w1.frozen? ⟨w.heap.size, o, none⟩ = _ := fun o => hx.cells.2 _ o (by first | (simp; done) | (simp; omega) | omega))); (try (have hq1 : w.heap.size + 1 < w1.heap.size := by omega)); (try (have hc1 : ∀ o, w1.cell? ⟨w.heap.size + 1, o, none⟩ = _ := fun o => hx.cells.1 _ o (by first | (simp; done) | (simp; omega) | omega))); (try (have hf1 : ∀ o, w1.frozen? ⟨w.heap.size + 1, o, none⟩ = _ := fun o => hx.cells.2 _ o (by first | (simp; done) | (simp; omega) | omega))); (try (have hq2 : w.heap.size + 2 < w1.heap.size := by omega)); (try (have hc2 : ∀ o, w1.cell? ⟨w.heap.size + 2, o, none⟩ = _ := fun o => hx.cells.1 _ o (by first | (simp; done) | (simp; omega) | omega))); (try (have hf2 : ∀ o, w1.frozen? ⟨w.heap.size + 2, o, none⟩ = _ := fun o => hx.cells.2 _ o (by first | (simp; done) | (simp; omega) | omega)))) | (go_at_call 36; (with_reducible refine (l18Props_any _ _ _ xs t _ (hI.ext (by with_reducible (repeat (first | exact Ext.refl _ | apply Ext.drewN | apply Ext.drew | apply Ext.alloc | (refine Ext.set ?_ (by first | (simp; done) | (simp; omega) | omega) _) | (refine Ext.trans ?_ (by assumption)))))) HV.out (by omega)).mono ?_); rintro e w2 ⟨A1, c1, rfl, ho⟩))
  have hrg := Lib.hid (pls_rng (thAt_endless HV.out) t)
  have hJ := ho.row.ints (by omega) (fun y hy => by have := hrg.out y hy; omega)
  rw [Nat.mul_one] at hJ
  have hxw : Ext w w2 := Ext.trans (by with_reducible (repeat (first | exact Ext.refl _ | apply Ext.drewN | apply Ext.drew | apply Ext.alloc | (refine Ext.set ?_ (by first | (simp; done) | (simp; omega) | omega) _) | (refine Ext.trans ?_ (by assumption))))) ho.ext
  go_loopw [8, 9, 10, 11] (fun v i _ _ wr => ∃ k : Nat, k ≤ t ∧ i = .int .i64 k ∧ OwnR 2 1 w2 wr v k (acl (thAt xs) k)) (fun _ i _ _ _ => t - (intOf i).toNat)
  case atStart => exact ⟨0, Nat.zero_le _, rfl, ownR_empty (Ext.refl _) _ _⟩
  case round =>
    obtain ⟨k, hk, rfl, hown⟩ := hrel
    by_cases hlt : k < t
    · have hxr := hown.ext
      have hx0 : Ext w wr := hxw.trans hxr
      have hcc := Lib.hid (prp_crs HV.out (-1))
      have HLE : Hid ((pls (thAt xs) k).2 ≤ prp xs) := by show _ ≤ _; rw [hcc.out]; exact cnt_le_crs (thAt_endless HV.out) k
      obtain ⟨N, hN⟩ : ∃ N : Nat, prp xs = N := ⟨(prp xs).toNat, by omega⟩
      have HN := Lib.hid hN
      have hN15 : N ≤ 15 := by omega
      clear hN hcc
      go_wp2
      go_loop [10, 11] (fun s p => ∃ j : Nat, j ≤ N ∧ p = .int .i64 j ∧ s = .int .i64 (airn (thAt xs) k j)) (fun _ p => N - (intOf p).toNat)
      case atStart => exact ⟨0, Nat.zero_le _, rfl, rfl⟩
      case round =>
        obtain ⟨j, hj, rfl, rfl⟩ := hrel
        have hab := airn_bd (h := thAt xs) k j
        by_cases hjl : j < N
        · by_cases h1 : ¬ plr (thAt xs) k = j ∧ (j : Int) < (pls (thAt xs) k).2
          · have HS : Hid (airn (thAt xs) k (j + 1) = airn (thAt xs) k j + 1) := by show _ = _; simp only [airn]; rw [if_pos h1]
            have HV2 : Hid (chr (thAt xs) k j = 124) := by show _ = _; unfold chr; rw [if_neg h1.1, if_pos h1.2]
            clear h1
            go_wp2_with (first | (go_at_call 37; (with_reducible refine (l02Props_any _ _ _ xs _ (hI.ext (by with_reducible (repeat (first | exact Ext.refl _ | apply Ext.drewN | apply Ext.drew | apply Ext.alloc | (refine Ext.set ?_ (by first | (simp; done) | (simp; omega) | omega) _) | (refine Ext.trans ?_ (by assumption)))))) HV.out).mono ?_); rw [HN.out]; rintro e w' ⟨rfl, rfl⟩) | (go_at_call 38; (with_reducible refine (l18Char_any _ _ _ xs _ k _ (hJ.ext hxr) HV.out hlt (by omega) (by omega)).mono ?_); rw [HV2.out]; rintro e w' ⟨rfl, rfl⟩))
            go_round
            case rel => exact ⟨j + 1, by omega, by go_num, by rw [HS.out]⟩
            case measure => simp [intOf]; omega
          · have HS : Hid (airn (thAt xs) k (j + 1) = airn (thAt xs) k j) := by show _ = _; simp only [airn]; rw [if_neg h1]; omega
            obtain ⟨v, hv, hne⟩ : ∃ v, chr (thAt xs) k j = v ∧ (v == 124) = false := by
              unfold chr
              by_cases a : plr (thAt xs) k = j
              · exact ⟨42, if_pos a, rfl⟩
              · exact ⟨46, by rw [if_neg a, if_neg (fun b => h1 ⟨a, b⟩)], rfl⟩
            have HV2 := Lib.hid hv
            clear hv h1
            go_wp2_with (first | (go_at_call 37; (with_reducible refine (l02Props_any _ _ _ xs _ (hI.ext (by with_reducible (repeat (first | exact Ext.refl _ | apply Ext.drewN | apply Ext.drew | apply Ext.alloc | (refine Ext.set ?_ (by first | (simp; done) | (simp; omega) | omega) _) | (refine Ext.trans ?_ (by assumption)))))) HV.out).mono ?_); rw [HN.out]; rintro e w' ⟨rfl, rfl⟩) | (go_at_call 38; (with_reducible refine (l18Char_any _ _ _ xs _ k _ (hJ.ext hxr) HV.out hlt (by omega) (by omega)).mono ?_); rw [HV2.out]; rintro e w' ⟨rfl, rfl⟩))
            go_round
            case rel => exact ⟨j + 1, by omega, by go_num, by rw [HS.out]⟩
            case measure => simp [intOf]; omega
        · obtain rfl : j = N := by omega
          have HR : Hid (airn (thAt xs) k j = airc (thAt xs) k) := airn_eq k j (by rw [← HN.out]; exact HLE.out) (plr_rng (thAt_endless HV.out) k).1
          have HA := acl_succ (thAt xs) k
          have HA := Lib.hid HA
          go_wp2_with (first | (go_at_call 37; (with_reducible refine (l02Props_any _ _ _ xs _ (hI.ext (by with_reducible (repeat (first | exact Ext.refl _ | apply Ext.drewN | apply Ext.drew | apply Ext.alloc | (refine Ext.set ?_ (by first | (simp; done) | (simp; omega) | omega) _) | (refine Ext.trans ?_ (by assumption)))))) HV.out).mono ?_); rw [HN.out]; rintro e w' ⟨rfl, rfl⟩) | (at_builtin; refine appM elInt (by omega) rfl _ _ Try.underlying24 rfl rfl (hown.trans (by with_reducible (repeat (first | exact Ext.refl _ | apply Ext.drewN | apply Ext.drew | apply Ext.alloc | (refine Ext.set ?_ (by first | (simp; done) | (simp; omega) | omega) _) | (refine Ext.trans ?_ (by assumption)))))) (by omega) rfl (heap_alloc_new _ _) (ys := [airn (thAt xs) k j]) (by rfl) (by rfl) ?_; intro v' w3 hown'))
          go_roundw
          case rel => exact ⟨k + 1, by omega, by go_num, by rw [HA.out, ← HR.out]; exact hown'⟩
          case measure => simp [intOf]; omega
    · obtain rfl : k = t := by omega
      obtain ⟨A3, c3, rfl⟩ := hown.forms
      have HT : Hid (RetRow w 2 1 k (acl (thAt xs) k) 0 (.returned (.tuple #[.slice A3 k c3, .int .i64 0])) wr) := RetRow.of_ownR rfl (hown.rebase hxw)
      go_wp2
      go_ret2
      exact HT.out
theorem specAirCounts_ret (A : Option Addr) (n c : Nat) (xs : List Int) (t : Int) (w : World) (hI : Ints w A n xs) :
    Calls Try.prog 10 #[.slice A n c, .int .i64 t] w (RetRow w 2 1 (thpn xs t) (acs xs t) (rcd xs t)) := by
  unfold thpn acs
  by_cases hr : rcd xs t = 0
  · rw [if_pos hr, if_pos hr, hr]
    obtain ⟨hv, ht⟩ := rcd_zero hr
    obtain ⟨k, rfl⟩ : ∃ k : Nat, t = k := ⟨t.toNat, by omega⟩
    rw [Int.toNat_natCast]
    exact specAirCounts_yes A n c xs k w hI hr
  · rw [if_neg hr, if_neg hr]
    have h0 : (rcd xs t != 0) = true := by simpa using hr
    obtain ⟨r, hr⟩ : ∃ r, rcd xs t = r := ⟨_, rfl⟩
    rw [hr] at h0 ⊢
    have HC := Lib.hid hr
    clear hr
    go_enter Try.func10, Try.ntmps10
    go_wp2_with (first | (go_at_call 35; (with_reducible refine (l18Code_is _ _ _ xs _ _ (hI.ext (by with_reducible (repeat (first | exact Ext.refl _ | apply Ext.drewN | apply Ext.drew | apply Ext.alloc | (refine Ext.set ?_ (by first | (simp; done) | (simp; omega) | omega) _) | (refine Ext.trans ?_ (by assumption)))))) r HC).mono ?_); rintro e w1 ⟨rfl, hx⟩; have hz := hx.size; (try simp at hz); (try (have hq0 : w.heap.size < w1.heap.size := by omega)); (try (have hc0 : ∀ o, w1.cell? ⟨w.heap.size, o, none⟩ = _ := fun o => hx.cells.1 _ o (by first | (simp; done) | (simp; omega) | omega))); (try (have hf0 : ∀ o, w1.frozen? ⟨w.heap.size, o, none⟩ = _ := fun o => hx.cells.2 _ o (by first | (simp; done) | (simp; omega) | omega))); (try (have hq1 : w.heap.size + 1 < w1.heap.size := by omega)); (try (have hc1 : ∀ o, w1.cell? ⟨w.heap.size + 1, o, none⟩ = _ := fun o => hx.cells.1 _ o (by first | (simp; done) | (simp; omega) | omega))); (try (have hf1 : ∀ o, w1.frozen? ⟨w.heap.size + 1, o, none⟩ = _ := fun o => hx.cells.2 _ o (by first | (simp; done) | (simp; omega) | omega))); (try (have hq2 : w.heap.size + 2 < w1.heap.size := by omega)); (try (have hc2 : ∀ o, w1.cell? ⟨w.heap.size + 2, o, none⟩ = _ := fun o => hx.cells.1 _ o (by first | (simp; done) | (simp; omega) | omega))); (try (have hf2 : ∀ o, w1.frozen? ⟨w.heap.size + 2, o, none⟩ = _ := fun o => hx.cells.2 _ o (by first | (simp; done) | (simp; omega) | omega)))))
    go_ret2
    exact RetRow.of_nil rfl (by with_reducible (repeat (first | exact Ext.refl _ | apply Ext.drewN | apply Ext.drew | apply Ext.alloc | (refine Ext.set ?_ (by first | (simp; done) | (simp; omega) | omega) _) | (refine Ext.trans ?_ (by assumption)))))
set_option maxHeartbeats 2000000 in
theorem implAirCounts_yes (A : Option Addr) (n c : Nat) (xs : List Int) (t : Nat) (w : World) (hI : Ints w A n xs) (hr : rcd xs t = 0) :
    Calls Try.prog 9 #[.slice A n c, .int .i64 t] w (RetRow w 2 1 t (acl (thAt xs) t) 0) := by
  obtain ⟨hv, ht0, ht⟩ := rcd_zero hr
  have HV := Lib.hid hv
  have HC := Lib.hid hr
  clear hr hv
  go_enter Try.func9, Try.ntmps9
  go_wp2_with (first | (go_at_call 33; (with_reducible refine (rowsCode_is _ _ _ xs _ _ (hI.ext (by with_reducible (repeat (first | exact Ext.refl _ | apply Ext.drewN | apply Ext.drew | apply Ext.alloc | (refine Ext.set ?_ (by first | (simp; done) | (simp; omega) | omega) _) | (refine Ext.trans ?_ (by assumption)))))) 0 HC).mono ?_); rintro e w1 ⟨rfl, hx⟩; have hz := hx.size; (try simp at hz); (try (have hq0 : w.heap.size < w1.heap.size := by omega)); (try (have hc0 : ∀ o, w1.cell? ⟨w.heap.size, o, none⟩ = _ := fun o => hx.cells.1 _ o (by first | (simp; done) | (simp; omega) | omega))); (try (have hf0 : ∀ o, w1.frozen? ⟨w.heap.size, o, none⟩ = _ := fun o => hx.cells.2 _ o (by first | (simp; done) | (simp; omega) | omega))); (try (have hq1 : w.heap.size + 1 < w1.heap.size := by omega)); (try (have hc1 : ∀ o, w1.cell? ⟨w.heap.size + 1, o, none⟩ = _ := fun o => hx.cells.1 _ o (by first | (simp; done) | (simp; omega) | omega))); (try (have hf1 : ∀ o, w1.frozen? ⟨w.heap.size + 1, o, none⟩ = _ := fun o => hx.cells.2 _ o (by first | (simp; done) | (simp; omega) | omega))); (try (have hq2 : w.heap.size + 2 < w1.heap.size := by omega)); (try (have hc2 : ∀ o, w1.cell? ⟨w.heap.size + 2, o, none⟩ = _ := fun o => hx.cells.1 _ o (by first | (simp; done) | (simp; omega) | omega))); (try (have hf2 : ∀ o, w1.frozen? ⟨w.heap.size + 2, o, none⟩ = _ := fun o => hx.cells.2 _ o (by first | (simp; done) | (simp; omega) | omega)))) | (go_at_call 34; (with_reducible refine (propsAt_any _ _ _ xs t _ (hI.ext (by with_reducible (repeat (first | exact Ext.refl _ | apply Ext.drewN | apply Ext.drew | apply Ext.alloc | (refine Ext.set ?_ (by first | (simp; done) | (simp; omega) | omega) _) | (refine Ext.trans ?_ (by assumption)))))) HV.out (by omega)).mono ?_); rintro e w2 ⟨A1, c1, rfl, ho⟩))
  have hrg := Lib.hid (pls_rng (thAt_endless HV.out) t)
  have hrow0 := ho.row
  have hs12 := ho.ext.size
  have hE0 : OwnR 2 1 w1 w2 (.slice (some ⟨w1.heap.size, 0, none⟩) 0 0) 0 [] := (ownR_empty (Ext.refl w1) _ _).trans ho.ext
  simp at hrow0 hs12
  have hxw : Ext w w1 := (by with_reducible (repeat (first | exact Ext.refl _ | apply Ext.drewN | apply Ext.drew | apply Ext.alloc | (refine Ext.set ?_ (by first | (simp; done) | (simp; omega) | omega) _) | (refine Ext.trans ?_ (by assumption)))))
  go_loopw [7, 8, 22, 10, 32, 39] (fun v s i _ _ _ wr => ∃ k : Nat, k ≤ t ∧ i = .int .i64 k ∧ s = .int .i64 (pls (thAt xs) k).2 ∧ OwnR 2 1 w1 wr v k (acl (thAt xs) k) ∧ Apart (w1.heap.size + 1) w2.heap.size v ∧ Row wr (w1.heap.size + 1) w2.heap.size 2 1 A1 t c1 (pls (thAt xs) t).1 ∧ w2.heap.size ≤ wr.heap.size) (fun _ _ i _ _ _ _ => t - (intOf i).toNat)
  case atStart => exact ⟨0, Nat.zero_le _, rfl, rfl, hE0, Apart.of_lt (by omega) _ _, hrow0, Nat.le_refl _⟩
  case round =>
    obtain ⟨k, hk, rfl, rfl, hown, hap, hrow, hhi⟩ := hrel
    by_cases hlt : k < t
    · have hxr := hown.ext
      have hJ := hrow.ints (by omega) (fun y hy => by have := hrg.out y hy; omega)
      rw [Nat.mul_one] at hJ
      obtain ⟨b, off, hA, hb, hcell⟩ := hJ.at_ (by omega)
      subst hA
      have hc := hcell k hlt
      rw [pls_get (thAt xs) hlt] at hc
      clear hcell
      have hki : (k : Int) < t := by omega
      have hcb := cnt_bd (thAt xs) k
      have hpb := plr_bd (thAt_endless HV.out) k
      have hpr := plr_rng (thAt_endless HV.out) k
      by_cases h0 : thAt xs k = 0
      · have hp := hpb.1 h0
        have HA : Hid (acl (thAt xs) (k + 1) = acl (thAt xs) k ++ [(pls (thAt xs) k).2]) := by show _ = _; rw [acl_succ, show airc (thAt xs) k = (pls (thAt xs) k).2 from if_pos (by omega)]
        have HC2 : Hid ((pls (thAt xs) (k + 1)).2 = (pls (thAt xs) k).2) := cnt_zero h0
        rw [hp] at hc
        clear hpb h0 hpr hp
        go_wp2_with (first | (at_builtin; refine appB elInt (by omega) rfl _ _ Try.underlying24 rfl rfl (hown.trans (by with_reducible (repeat (first | exact Ext.refl _ | apply Ext.drewN | apply Ext.drew | apply Ext.alloc | (refine Ext.set ?_ (by first | (simp; done) | (simp; omega) | omega) _) | (refine Ext.trans ?_ (by assumption)))))) hap (by simp; omega) (by omega) rfl (heap_alloc_new _ _) (ys := [(pls (thAt xs) k).2]) (by rfl) (by rfl) ?_; intro v' w3 hown' hap' hg'))
        go_roundw
        case rel => exact ⟨k + 1, by omega, by go_num, by rw [HC2.out], by rw [HA.out]; exact hown', hap', hrow.stays ((Ext.refl _).alloc _) hg' hap, Nat.le_trans hhi (by have := hg'.size; simp at this; omega)⟩
        case measure => simp [intOf]; omega
      · have hp0 := hpb.2 h0
        by_cases h1 : frm (thAt xs) k < 0
        · have hp := plr_new h0 h1
          have HA : Hid (acl (thAt xs) (k + 1) = acl (thAt xs) k ++ [(pls (thAt xs) k).2]) := by show _ = _; rw [acl_succ, show airc (thAt xs) k = (pls (thAt xs) k).2 by unfold airc; rw [hp, if_neg (by omega), if_neg (by omega)]]
          have HC2 : Hid ((pls (thAt xs) (k + 1)).2 = (pls (thAt xs) k).2 + 1) := cnt_new h0 h1
          rw [hp] at hc
          clear hpb h0 hpr hp hp0 h1
          go_wp2_with (first | (at_builtin; refine appB elInt (by omega) rfl _ _ Try.underlying24 rfl rfl (hown.trans (by with_reducible (repeat (first | exact Ext.refl _ | apply Ext.drewN | apply Ext.drew | apply Ext.alloc | (refine Ext.set ?_ (by first | (simp; done) | (simp; omega) | omega) _) | (refine Ext.trans ?_ (by assumption)))))) hap (by simp; omega) (by omega) rfl (heap_alloc_new _ _) (ys := [(pls (thAt xs) k).2]) (by rfl) (by rfl) ?_; intro v' w3 hown' hap' hg'))
          go_roundw
          case rel => exact ⟨k + 1, by omega, by go_num, by rw [HC2.out], by rw [HA.out]; exact hown', hap', hrow.stays ((Ext.refl _).alloc _) hg' hap, Nat.le_trans hhi (by have := hg'.size; simp at this; omega)⟩
          case measure => simp [intOf]; omega
        · have hlt2 : plr (thAt xs) k < (pls (thAt xs) k).2 := by have := hp0.2; rw [cnt_old h0 h1] at this; exact this
          have hge : 0 ≤ plr (thAt xs) k := hp0.1
          have HA : Hid (acl (thAt xs) (k + 1) = acl (thAt xs) k ++ [(pls (thAt xs) k).2 - 1]) := by show _ = _; rw [acl_succ, show airc (thAt xs) k = (pls (thAt xs) k).2 - 1 by unfold airc; rw [if_neg (by omega), if_pos (by omega)]]
          have HC2 : Hid ((pls (thAt xs) (k + 1)).2 = (pls (thAt xs) k).2) := cnt_old h0 h1
          clear hpb h0 hpr hp0 h1
          generalize plr (thAt xs) k = y at *
          go_wp2_with (first | (at_builtin; refine appB elInt (by omega) rfl _ _ Try.underlying24 rfl rfl (hown.trans (by with_reducible (repeat (first | exact Ext.refl _ | apply Ext.drewN | apply Ext.drew | apply Ext.alloc | (refine Ext.set ?_ (by first | (simp; done) | (simp; omega) | omega) _) | (refine Ext.trans ?_ (by assumption)))))) hap (by simp; omega) (by omega) rfl (heap_alloc_new _ _) (ys := [(pls (thAt xs) k).2 - 1]) (by rfl) (by rfl) ?_; intro v' w3 hown' hap' hg'))
          go_roundw
          case rel => exact ⟨k + 1, by omega, by go_num, by rw [HC2.out], by rw [HA.out]; exact hown', hap', hrow.stays ((Ext.refl _).alloc _) hg' hap, Nat.le_trans hhi (by have := hg'.size; simp at this; omega)⟩
          case measure => simp [intOf]; omega
    · obtain rfl : k = t := by omega
      obtain ⟨A3, c3, rfl⟩ := hown.forms
      have HT : Hid (RetRow w 2 1 k (acl (thAt xs) k) 0 (.returned (.tuple #[.slice A3 k c3, .int .i64 0])) wr) := RetRow.of_ownR rfl (hown.rebase hxw)
      go_wp2
      go_ret2
      exact HT.out
theorem implAirCounts_ret (A : Option Addr) (n c : Nat) (xs : List Int) (t : Int) (w : World) (hI : Ints w A n xs) :
    Calls Try.prog 9 #[.slice A n c, .int .i64 t] w (RetRow w 2 1 (thpn xs t) (acs xs t) (rcd xs t)) := by
  unfold thpn acs
  by_cases hr : rcd xs t = 0
  · rw [if_pos hr, if_pos hr, hr]
    obtain ⟨hv, ht⟩ := rcd_zero hr
    obtain ⟨k, rfl⟩ : ∃ k : Nat, t = k := ⟨t.toNat, by omega⟩
    rw [Int.toNat_natCast]
    exact implAirCounts_yes A n c xs k w hI hr
  · rw [if_neg hr, if_neg hr]
    have h0 : (rcd xs t != 0) = true := by simpa using hr
    obtain ⟨r, hr⟩ : ∃ r, rcd xs t = r := ⟨_, rfl⟩
    rw [hr] at h0 ⊢
    have HC := Lib.hid hr
    clear hr
    go_enter Try.func9, Try.ntmps9
    go_wp2_with (first | (go_at_call 33; (with_reducible refine (rowsCode_is _ _ _ xs _ _ (hI.ext (by with_reducible (repeat (first | exact Ext.refl _ | apply Ext.drewN | apply Ext.drew | apply Ext.alloc | (refine Ext.set ?_ (by first | (simp; done) | (simp; omega) | omega) _) | (refine Ext.trans ?_ (by assumption)))))) r HC).mono ?_); rintro e w1 ⟨rfl, hx⟩; have hz := hx.size; (try simp at hz); (try (have hq0 : w.heap.size < w1.heap.size := by omega)); (try (have hc0 : ∀ o, w1.cell? ⟨w.heap.size, o, none⟩ = _ := fun o => hx.cells.1 _ o (by first | (simp; done) | (simp; omega) | omega))); (try (have hf0 : ∀ o, w1.frozen? ⟨w.heap.size, o, none⟩ = _ := fun o => hx.cells.2 _ o (by first | (simp; done) | (simp; omega) | omega))); (try (have hq1 : w.heap.size + 1 < w1.heap.size := by omega)); (try (have hc1 : ∀ o, w1.cell? ⟨w.heap.size + 1, o, none⟩ = _ := fun o => hx.cells.1 _ o (by first | (simp; done) | (simp; omega) | omega))); (try (have hf1 : ∀ o, w1.frozen? ⟨w.heap.size + 1, o, none⟩ = _ := fun o => hx.cells.2 _ o (by first | (simp; done) | (simp; omega) | omega))); (try (have hq2 : w.heap.size + 2 < w1.heap.size := by omega)); (try (have hc2 : ∀ o, w1.cell? ⟨w.heap.size + 2, o, none⟩ = _ := fun o => hx.cells.1 _ o (by first | (simp; done) | (simp; omega) | omega))); (try (have hf2 : ∀ o, w1.frozen? ⟨w.heap.size + 2, o, none⟩ = _ := fun o => hx.cells.2 _ o (by first | (simp; done) | (simp; omega) | omega)))))
    go_ret2
    exact RetRow.of_nil rfl (by with_reducible (repeat (first | exact Ext.refl _ | apply Ext.drewN | apply Ext.drew | apply Ext.alloc | (refine Ext.set ?_ (by first | (simp; done) | (simp; omega) | omega) _) | (refine Ext.trans ?_ (by assumption)))))
end Go.Proofs.Ytendemigegjbfaa
