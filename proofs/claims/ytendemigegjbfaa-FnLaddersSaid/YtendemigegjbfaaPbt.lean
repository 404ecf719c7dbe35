/- The beats at which a prop is thrown: contracts of PropBeats, ThrowsOfProp. No condition but the stated bounds. -/
import Derived.Test.YtendemigegjbfaaPra
namespace Go.Proofs.Ytendemigegjbfaa
set_option linter.unusedVariables false
set_option linter.unusedSimpArgs false
open Go.RowKit

/-- The beats before k at which the prop p is thrown. -/
def pbs (h : Int → Int) (p : Int) : Nat → List Int
  | 0 => []
  | k + 1 => pbs h p k ++ if plr h k = p then [(k : Int)] else []
def pbn (h : Int → Int) (p : Int) : Nat → Nat
  | 0 => 0
  | k + 1 => pbn h p k + if plr h k = p then 1 else 0
theorem pbs_yes {h : Int → Int} {p : Int} {k : Nat} (hp : plr h k = p) : pbs h p (k + 1) = pbs h p k ++ [(k : Int)] ∧ pbn h p (k + 1) = pbn h p k + 1 := by
  simp only [pbs, pbn]; rw [if_pos hp, if_pos hp]; exact ⟨rfl, rfl⟩
theorem pbs_no {h : Int → Int} {p : Int} {k : Nat} (hp : ¬ plr h k = p) : pbs h p (k + 1) = pbs h p k ∧ pbn h p (k + 1) = pbn h p k := by
  simp only [pbs, pbn]; rw [if_neg hp, if_neg hp]; exact ⟨List.append_nil _, rfl⟩
theorem pbn_le (h : Int → Int) (p : Int) (k : Nat) : pbn h p k ≤ k := by
  induction k with
  | zero => exact Nat.le_refl _
  | succ k ih => simp only [pbn]; split <;> omega
theorem pbs_bd (h : Int → Int) (p : Int) (k : Nat) : ∀ y ∈ pbs h p k, 0 ≤ y ∧ y ≤ k := by
  induction k with
  | zero => intro y hy; cases hy
  | succ k ih =>
    intro y hy
    simp only [pbs, List.mem_append] at hy
    rcases hy with hy | hy
    · have := ih y hy; omega
    · split at hy
      · simp at hy; omega
      · cases hy
/-- The code of PropBeats, and what it gives. -/
def pbc (xs : List Int) (p t : Int) : Int := if rcd xs t = 0 then (if btw p 0 (prp xs - 1) then 0 else 2) else rcd xs t
def pbl (xs : List Int) (p t : Int) : List Int := if pbc xs p t = 0 then pbs (thAt xs) p t.toNat else []
def pbln (xs : List Int) (p t : Int) : Nat := if pbc xs p t = 0 then pbn (thAt xs) p t.toNat else 0
theorem pbc_zero {xs : List Int} {p t : Int} (h : pbc xs p t = 0) : rcd xs t = 0 ∧ btw p 0 (prp xs - 1) = true := by
  unfold pbc at h
  by_cases h1 : rcd xs t = 0
  · rw [if_pos h1] at h
    refine ⟨h1, ?_⟩
    cases h2 : btw p 0 (prp xs - 1)
    · rw [h2] at h; simp at h
    · rfl
  · rw [if_neg h1] at h
    exact absurd h h1
theorem pbl_bd (xs : List Int) (p t : Int) : pbln xs p t ≤ 1048576 ∧ ∀ y ∈ pbl xs p t, -9223372036854775808 ≤ y ∧ y ≤ 9223372036854775807 := by
  unfold pbln pbl
  split
  · rename_i hr
    obtain ⟨hv, ht⟩ := rcd_zero (pbc_zero hr).1
    have := pbn_le (thAt xs) p t.toNat
    exact ⟨by omega, fun y hy => by have := pbs_bd _ _ _ y hy; omega⟩
  · exact ⟨by omega, by simp⟩
set_option maxHeartbeats 2000000 in
theorem specPropBeats_yes (A : Option Addr) (n c : Nat) (xs : List Int) (p : Int) (t : Nat) (w : World) (hI : Ints w A n xs) (hr : pbc xs p t = 0) :
    Calls Try.prog 13 #[.slice A n c, .int .i64 p, .int .i64 t] w (RetRow w 2 1 (pbn (thAt xs) p t) (pbs (thAt xs) p t) 0) := by
  obtain ⟨hr0, hp⟩ := pbc_zero hr
  obtain ⟨hv, ht0, ht⟩ := rcd_zero hr0
  have HV := Lib.hid hv
  have HC := Lib.hid hr0
  have HP := Lib.hid hp
  have hpb := prp_bd hv
  clear hr hr0 hv hp
  go_enter Try.func13, Try.ntmps13
  go_wp2_with (first | (go_at_call 35; (with_reducible refine (l18Code_is _ _ _ xs _ _ (hI.ext (by with_reducible (repeat (first | exact Ext.refl _ | apply Ext.drewN | apply Ext.drew | apply Ext.alloc | (refine Ext.set ?_ (by first | (simp; done) | (simp; omega) | omega) _) | (refine Ext.trans ?_ (by assumption)))))) 0 HC).mono ?_); rintro e w1 ⟨rfl, hx⟩; have hz := hx.size; (try simp at hz); (try (have hq0 : w.heap.size < w1.heap.size := by omega)); (try (have hc0 : ∀ o, w1.cell? ⟨w.heap.size, o, none⟩ = _ := fun o => hx.cells.1 _ o (by first | (simp; done) | (simp; omega) | omega))); (try (have hf0 : ∀ o, w1.frozen? ⟨w.heap.size, o, none⟩ = _ := fun o => hx.cells.2 _ o (by first | (simp; done) | (simp; omega) | omega))); (try (have hq1 : w.heap.size + 1 < w1.heap.size := by omega)); (try (have hc1 : ∀ o, w1.cell? ⟨w.heap.size + 1, o, none⟩ = _ := fun o => hx.cells.1 _ o (by first | (simp; done) | (simp; omega) | omega))); (try (have hf1 : ∀ o, w1.frozen? ⟨w.heap.size + 1, o, none⟩ = _ := fun o => hx.cells.2 _ o (by first | (simp; done) | (simp; omega) | omega))); (try (have hq2 : w.heap.size + 2 < w1.heap.size := by omega)); (try (have hc2 : ∀ o, w1.cell? ⟨w.heap.size + 2, o, none⟩ = _ := fun o => hx.cells.1 _ o (by first | (simp; done) | (simp; omega) | omega))); (try (have hf2 : ∀ o, w1.frozen? ⟨w.heap.size + 2, o, none⟩ = _ := fun o => hx.cells.2 _ o (by first | (simp; done) | (simp; omega) | omega)))) | (go_at_call 37; (with_reducible refine (l02Props_any _ _ _ xs _ (hI.ext (by with_reducible (repeat (first | exact Ext.refl _ | apply Ext.drewN | apply Ext.drew | apply Ext.alloc | (refine Ext.set ?_ (by first | (simp; done) | (simp; omega) | omega) _) | (refine Ext.trans ?_ (by assumption)))))) HV.out).mono ?_); rintro e w' ⟨rfl, rfl⟩) | (go_at_call 44; (with_reducible refine (l00In_is _ _ _ _ HP.out _).mono ?_); rintro e w' ⟨rfl, rfl⟩) | (go_at_call 36; (with_reducible refine (l18Props_any _ _ _ xs t _ (hI.ext (by with_reducible (repeat (first | exact Ext.refl _ | apply Ext.drewN | apply Ext.drew | apply Ext.alloc | (refine Ext.set ?_ (by first | (simp; done) | (simp; omega) | omega) _) | (refine Ext.trans ?_ (by assumption)))))) HV.out (by omega)).mono ?_); rintro e w2 ⟨A1, c1, rfl, ho⟩))
  have hrg := Lib.hid (pls_rng (thAt_endless HV.out) t)
  have hJ := ho.row.ints (by omega) (fun y hy => by have := hrg.out y hy; omega)
  rw [Nat.mul_one] at hJ
  have hxw : Ext w w2 := Ext.trans (by with_reducible (repeat (first | exact Ext.refl _ | apply Ext.drewN | apply Ext.drew | apply Ext.alloc | (refine Ext.set ?_ (by first | (simp; done) | (simp; omega) | omega) _) | (refine Ext.trans ?_ (by assumption))))) ho.ext
  go_loopw [10, 11] (fun v i wr => ∃ k : Nat, k ≤ t ∧ i = .int .i64 k ∧ OwnR 2 1 w2 wr v (pbn (thAt xs) p k) (pbs (thAt xs) p k)) (fun _ i _ => t - (intOf i).toNat)
  case atStart => exact ⟨0, Nat.zero_le _, rfl, ownR_empty (Ext.refl _) _ _⟩
  case round =>
    obtain ⟨k, hk, rfl, hown⟩ := hrel
    by_cases hlt : k < t
    · have hxr := hown.ext
      have hle := pbn_le (thAt xs) p k
      obtain ⟨b, off, hA, hb, hcell⟩ := (hJ.ext hxr).at_ (by omega)
      subst hA
      have hc := hcell k hlt
      rw [pls_get (thAt xs) hlt] at hc
      clear hcell
      have hki : (k : Int) < t := by omega
      by_cases h0 : plr (thAt xs) k = p
      · obtain ⟨hs, hn⟩ := pbs_yes h0
        have HS := Lib.hid hs
        have HN := Lib.hid hn
        have heq : (plr (thAt xs) k == p) = true := by simpa using h0
        clear hs hn
        generalize plr (thAt xs) k = y at *
        subst h0
        go_wp2_with (first | (at_builtin; refine appM elInt (by omega) rfl _ _ Try.underlying24 rfl rfl (hown.trans (by with_reducible (repeat (first | exact Ext.refl _ | apply Ext.drewN | apply Ext.drew | apply Ext.alloc | (refine Ext.set ?_ (by first | (simp; done) | (simp; omega) | omega) _) | (refine Ext.trans ?_ (by assumption)))))) (by omega) rfl (heap_alloc_new _ _) (ys := [(k : Int)]) (by rfl) (by rfl) ?_; intro v' w3 hown'))
        go_roundw
        case rel => exact ⟨k + 1, by omega, by go_num, by rw [HS.out, HN.out]; exact hown'⟩
        case measure => simp [intOf]; omega
      · obtain ⟨hs, hn⟩ := pbs_no h0
        have HS := Lib.hid hs
        have HN := Lib.hid hn
        have heq : (plr (thAt xs) k == p) = false := by simpa using h0
        clear hs hn
        go_wp2
        go_roundw
        case rel => exact ⟨k + 1, by omega, by go_num, by rw [HS.out, HN.out]; exact hown⟩
        case measure => simp [intOf]; omega
    · obtain rfl : k = t := by omega
      obtain ⟨A3, c3, rfl⟩ := hown.forms
      have HT : Hid (RetRow w 2 1 (pbn (thAt xs) p k) (pbs (thAt xs) p k) 0 (.returned (.tuple #[.slice A3 (pbn (thAt xs) p k) c3, .int .i64 0])) wr) := RetRow.of_ownR rfl (hown.rebase hxw)
      go_wp2
      go_ret2
      exact HT.out
theorem specPropBeats_no (A : Option Addr) (n c : Nat) (xs : List Int) (p t : Int) (w : World) (hI : Ints w A n xs) (hr : ¬ pbc xs p t = 0) :
    Calls Try.prog 13 #[.slice A n c, .int .i64 p, .int .i64 t] w (RetRow w 2 1 0 [] (pbc xs p t)) := by
  unfold pbc at hr ⊢
  by_cases h0 : rcd xs t = 0
  · rw [if_pos h0] at hr ⊢
    obtain ⟨hv, ht⟩ := rcd_zero h0
    cases hp : btw p 0 (prp xs - 1)
    · rw [if_neg (show ¬ false = true by simp)]
      have HV := Lib.hid hv
      have HC := Lib.hid h0
      have HP := Lib.hid hp
      have hpb := prp_bd hv
      clear hr h0 hv hp
      go_enter Try.func13, Try.ntmps13
      go_wp2_with (first | (go_at_call 35; (with_reducible refine (l18Code_is _ _ _ xs _ _ (hI.ext (by with_reducible (repeat (first | exact Ext.refl _ | apply Ext.drewN | apply Ext.drew | apply Ext.alloc | (refine Ext.set ?_ (by first | (simp; done) | (simp; omega) | omega) _) | (refine Ext.trans ?_ (by assumption)))))) 0 HC).mono ?_); rintro e w1 ⟨rfl, hx⟩; have hz := hx.size; (try simp at hz); (try (have hq0 : w.heap.size < w1.heap.size := by omega)); (try (have hc0 : ∀ o, w1.cell? ⟨w.heap.size, o, none⟩ = _ := fun o => hx.cells.1 _ o (by first | (simp; done) | (simp; omega) | omega))); (try (have hf0 : ∀ o, w1.frozen? ⟨w.heap.size, o, none⟩ = _ := fun o => hx.cells.2 _ o (by first | (simp; done) | (simp; omega) | omega))); (try (have hq1 : w.heap.size + 1 < w1.heap.size := by omega)); (try (have hc1 : ∀ o, w1.cell? ⟨w.heap.size + 1, o, none⟩ = _ := fun o => hx.cells.1 _ o (by first | (simp; done) | (simp; omega) | omega))); (try (have hf1 : ∀ o, w1.frozen? ⟨w.heap.size + 1, o, none⟩ = _ := fun o => hx.cells.2 _ o (by first | (simp; done) | (simp; omega) | omega))); (try (have hq2 : w.heap.size + 2 < w1.heap.size := by omega)); (try (have hc2 : ∀ o, w1.cell? ⟨w.heap.size + 2, o, none⟩ = _ := fun o => hx.cells.1 _ o (by first | (simp; done) | (simp; omega) | omega))); (try (have hf2 : ∀ o, w1.frozen? ⟨w.heap.size + 2, o, none⟩ = _ := fun o => hx.cells.2 _ o (by first | (simp; done) | (simp; omega) | omega)))) | (go_at_call 37; (with_reducible refine (l02Props_any _ _ _ xs _ (hI.ext (by with_reducible (repeat (first | exact Ext.refl _ | apply Ext.drewN | apply Ext.drew | apply Ext.alloc | (refine Ext.set ?_ (by first | (simp; done) | (simp; omega) | omega) _) | (refine Ext.trans ?_ (by assumption)))))) HV.out).mono ?_); rintro e w' ⟨rfl, rfl⟩) | (go_at_call 44; (with_reducible refine (l00In_is _ _ _ _ HP.out _).mono ?_); rintro e w' ⟨rfl, rfl⟩))
      go_ret2
      exact RetRow.of_nil rfl (by with_reducible (repeat (first | exact Ext.refl _ | apply Ext.drewN | apply Ext.drew | apply Ext.alloc | (refine Ext.set ?_ (by first | (simp; done) | (simp; omega) | omega) _) | (refine Ext.trans ?_ (by assumption)))))
    · rw [hp] at hr
      simp at hr
  · rw [if_neg h0] at hr ⊢
    have h1 : (rcd xs t != 0) = true := by simpa using h0
    obtain ⟨r, hr⟩ : ∃ r, rcd xs t = r := ⟨_, rfl⟩
    rw [hr] at h1 ⊢
    have HC := Lib.hid hr
    clear hr
    go_enter Try.func13, Try.ntmps13
    go_wp2_with (first | (go_at_call 35; (with_reducible refine (l18Code_is _ _ _ xs _ _ (hI.ext (by with_reducible (repeat (first | exact Ext.refl _ | apply Ext.drewN | apply Ext.drew | apply Ext.alloc | (refine Ext.set ?_ (by first | (simp; done) | (simp; omega) | omega) _) | (refine Ext.trans ?_ (by assumption)))))) r HC).mono ?_); rintro e w1 ⟨rfl, hx⟩; have hz := hx.size; (try simp at hz); (try (have hq0 : w.heap.size < w1.heap.size := by omega)); (try (have hc0 : ∀ o, w1.cell? ⟨w.heap.size, o, none⟩ = _ := fun o => hx.cells.1 _ o (by first | (simp; done) | (simp; omega) | omega))); (try (have hf0 : ∀ o, w1.frozen? ⟨w.heap.size, o, none⟩ = _ := fun o => hx.cells.2 _ o (by first | (simp; done) | (simp; omega) | omega))); (try (have hq1 : w.heap.size + 1 < w1.heap.size := by omega)); (try (have hc1 : ∀ o, w1.cell? ⟨w.heap.size + 1, o, none⟩ = _ := fun o => hx.cells.1 _ o (by first | (simp; done) | (simp; omega) | omega))); (try (have hf1 : ∀ o, w1.frozen? ⟨w.heap.size + 1, o, none⟩ = _ := fun o => hx.cells.2 _ o (by first | (simp; done) | (simp; omega) | omega))); (try (have hq2 : w.heap.size + 2 < w1.heap.size := by omega)); (try (have hc2 : ∀ o, w1.cell? ⟨w.heap.size + 2, o, none⟩ = _ := fun o => hx.cells.1 _ o (by first | (simp; done) | (simp; omega) | omega))); (try (have hf2 : ∀ o, w1.frozen? ⟨w.heap.size + 2, o, none⟩ = _ := fun o => hx.cells.2 _ o (by first | (simp; done) | (simp; omega) | omega)))))
    go_ret2
    exact RetRow.of_nil rfl (by with_reducible (repeat (first | exact Ext.refl _ | apply Ext.drewN | apply Ext.drew | apply Ext.alloc | (refine Ext.set ?_ (by first | (simp; done) | (simp; omega) | omega) _) | (refine Ext.trans ?_ (by assumption)))))
theorem specPropBeats_ret (A : Option Addr) (n c : Nat) (xs : List Int) (p t : Int) (w : World) (hI : Ints w A n xs) :
    Calls Try.prog 13 #[.slice A n c, .int .i64 p, .int .i64 t] w (RetRow w 2 1 (pbln xs p t) (pbl xs p t) (pbc xs p t)) := by
  unfold pbln pbl
  by_cases hr : pbc xs p t = 0
  · rw [if_pos hr, if_pos hr, hr]
    obtain ⟨hv, ht⟩ := rcd_zero (pbc_zero hr).1
    obtain ⟨k, rfl⟩ : ∃ k : Nat, t = k := ⟨t.toNat, by omega⟩
    rw [Int.toNat_natCast]
    exact specPropBeats_yes A n c xs p k w hI hr
  · rw [if_neg hr, if_neg hr]
    exact specPropBeats_no A n c xs p t w hI hr
set_option maxHeartbeats 2000000 in
theorem throwsOfProp_yes (A : Option Addr) (n c : Nat) (xs : List Int) (p : Int) (t : Nat) (w : World) (hI : Ints w A n xs) (hr : pbc xs p t = 0) :
    Calls Try.prog 43 #[.slice A n c, .int .i64 p, .int .i64 t] w (RetRow w 2 1 (pbn (thAt xs) p t) (pbs (thAt xs) p t) 0) := by
  obtain ⟨hr0, hp⟩ := pbc_zero hr
  obtain ⟨hv, ht0, ht⟩ := rcd_zero hr0
  have HV := Lib.hid hv
  have HP := Lib.hid hp
  have hpb := prp_bd hv
  have hb2 : btw (t : Int) 0 200 = true := btw_iff.2 (by omega)
  have HB := Lib.hid hb2
  clear hb2 hr hr0 hv hp
  go_enter Try.func43, Try.ntmps43
  go_wp2_with (first | (go_at_call 51; (with_reducible refine (ValidPattern_is _ _ _ xs _ HV.out _ (hI.ext (by with_reducible (repeat (first | exact Ext.refl _ | apply Ext.drewN | apply Ext.drew | apply Ext.alloc | (refine Ext.set ?_ (by first | (simp; done) | (simp; omega) | omega) _) | (refine Ext.trans ?_ (by assumption))))))).mono ?_); rintro e w1 ⟨rfl, hx⟩; have hz := hx.size; (try simp at hz); (try (have hq0 : w.heap.size < w1.heap.size := by omega)); (try (have hc0 : ∀ o, w1.cell? ⟨w.heap.size, o, none⟩ = _ := fun o => hx.cells.1 _ o (by first | (simp; done) | (simp; omega) | omega))); (try (have hf0 : ∀ o, w1.frozen? ⟨w.heap.size, o, none⟩ = _ := fun o => hx.cells.2 _ o (by first | (simp; done) | (simp; omega) | omega))); (try (have hq1 : w.heap.size + 1 < w1.heap.size := by omega)); (try (have hc1 : ∀ o, w1.cell? ⟨w.heap.size + 1, o, none⟩ = _ := fun o => hx.cells.1 _ o (by first | (simp; done) | (simp; omega) | omega))); (try (have hf1 : ∀ o, w1.frozen? ⟨w.heap.size + 1, o, none⟩ = _ := fun o => hx.cells.2 _ o (by first | (simp; done) | (simp; omega) | omega))); (try (have hq2 : w.heap.size + 2 < w1.heap.size := by omega)); (try (have hc2 : ∀ o, w1.cell? ⟨w.heap.size + 2, o, none⟩ = _ := fun o => hx.cells.1 _ o (by first | (simp; done) | (simp; omega) | omega))); (try (have hf2 : ∀ o, w1.frozen? ⟨w.heap.size + 2, o, none⟩ = _ := fun o => hx.cells.2 _ o (by first | (simp; done) | (simp; omega) | omega)))) | (go_at_call 52; (with_reducible refine (propsOf_is _ _ _ xs _ (hI.ext (by with_reducible (repeat (first | exact Ext.refl _ | apply Ext.drewN | apply Ext.drew | apply Ext.alloc | (refine Ext.set ?_ (by first | (simp; done) | (simp; omega) | omega) _) | (refine Ext.trans ?_ (by assumption)))))) HV.out).mono ?_); rintro e w' ⟨rfl, rfl⟩) | (go_at_call 47; (with_reducible refine (between_is p _ _ _ HP.out _).mono ?_); rintro e w' ⟨rfl, rfl⟩) | (go_at_call 47; (with_reducible refine (between_is (t : Int) 0 200 _ HB.out _).mono ?_); rintro e w' ⟨rfl, rfl⟩) | (go_at_call 34; (with_reducible refine (propsAt_any _ _ _ xs t _ (hI.ext (by with_reducible (repeat (first | exact Ext.refl _ | apply Ext.drewN | apply Ext.drew | apply Ext.alloc | (refine Ext.set ?_ (by first | (simp; done) | (simp; omega) | omega) _) | (refine Ext.trans ?_ (by assumption)))))) HV.out (by omega)).mono ?_); rintro e w2 ⟨A1, c1, rfl, ho⟩))
  have hrg := Lib.hid (pls_rng (thAt_endless HV.out) t)
  have hrow0 := ho.row
  have hs12 := ho.ext.size
  have hE0 : OwnR 2 1 w1 w2 (.slice (some ⟨w1.heap.size, 0, none⟩) 0 0) 0 [] := (ownR_empty (Ext.refl w1) _ _).trans ho.ext
  simp at hrow0 hs12
  have hxw : Ext w w1 := (by with_reducible (repeat (first | exact Ext.refl _ | apply Ext.drewN | apply Ext.drew | apply Ext.alloc | (refine Ext.set ?_ (by first | (simp; done) | (simp; omega) | omega) _) | (refine Ext.trans ?_ (by assumption)))))
  go_loopw [8, 30, 9, 10] (fun v i _ _ wr => ∃ k : Nat, k ≤ t ∧ i = .int .i64 k ∧ OwnR 2 1 w1 wr v (pbn (thAt xs) p k) (pbs (thAt xs) p k) ∧ Apart (w1.heap.size + 1) w2.heap.size v ∧ Row wr (w1.heap.size + 1) w2.heap.size 2 1 A1 t c1 (pls (thAt xs) t).1 ∧ w2.heap.size ≤ wr.heap.size) (fun _ i _ _ _ => t - (intOf i).toNat)
  case atStart => exact ⟨0, Nat.zero_le _, rfl, hE0, Apart.of_lt (by omega) _ _, hrow0, Nat.le_refl _⟩
  case round =>
    obtain ⟨k, hk, rfl, hown, hap, hrow, hhi⟩ := hrel
    by_cases hlt : k < t
    · have hxr := hown.ext
      have hJ := hrow.ints (by omega) (fun y hy => by have := hrg.out y hy; omega)
      rw [Nat.mul_one] at hJ
      have hle := pbn_le (thAt xs) p k
      obtain ⟨b, off, hA, hb, hcell⟩ := hJ.at_ (by omega)
      subst hA
      have hc := hcell k hlt
      rw [pls_get (thAt xs) hlt] at hc
      clear hcell
      have hki : (k : Int) < t := by omega
      by_cases h0 : plr (thAt xs) k = p
      · obtain ⟨hs, hn⟩ := pbs_yes h0
        have HS := Lib.hid hs
        have HN := Lib.hid hn
        have heq : (plr (thAt xs) k == p) = true := by simpa using h0
        clear hs hn
        generalize plr (thAt xs) k = y at *
        subst h0
        go_wp2_with (first | (at_builtin; refine appB elInt (by omega) rfl _ _ Try.underlying24 rfl rfl (hown.trans (by with_reducible (repeat (first | exact Ext.refl _ | apply Ext.drewN | apply Ext.drew | apply Ext.alloc | (refine Ext.set ?_ (by first | (simp; done) | (simp; omega) | omega) _) | (refine Ext.trans ?_ (by assumption)))))) hap (by simp; omega) (by omega) rfl (heap_alloc_new _ _) (ys := [(k : Int)]) (by rfl) (by rfl) ?_; intro v' w3 hown' hap' hg'))
        go_roundw
        case rel => exact ⟨k + 1, by omega, by go_num, by rw [HS.out, HN.out]; exact hown', hap', hrow.stays ((Ext.refl _).alloc _) hg' hap, Nat.le_trans hhi (by have := hg'.size; simp at this; omega)⟩
        case measure => simp [intOf]; omega
      · obtain ⟨hs, hn⟩ := pbs_no h0
        have HS := Lib.hid hs
        have HN := Lib.hid hn
        have heq : (plr (thAt xs) k == p) = false := by simpa using h0
        clear hs hn
        go_wp2
        go_roundw
        case rel => exact ⟨k + 1, by omega, by go_num, by rw [HS.out, HN.out]; exact hown, hap, hrow, hhi⟩
        case measure => simp [intOf]; omega
    · obtain rfl : k = t := by omega
      obtain ⟨A3, c3, rfl⟩ := hown.forms
      have HT : Hid (RetRow w 2 1 (pbn (thAt xs) p k) (pbs (thAt xs) p k) 0 (.returned (.tuple #[.slice A3 (pbn (thAt xs) p k) c3, .int .i64 0])) wr) := RetRow.of_ownR rfl (hown.rebase hxw)
      go_wp2
      go_ret2
      exact HT.out
theorem throwsOfProp_no (A : Option Addr) (n c : Nat) (xs : List Int) (p t : Int) (w : World) (hI : Ints w A n xs) (hv : vpat xs = true) (ht : 0 ≤ t ∧ t ≤ 60) (hp : btw p 0 (prp xs - 1) = false) :
    Calls Try.prog 43 #[.slice A n c, .int .i64 p, .int .i64 t] w (RetRow w 2 1 0 [] 2) := by
  have HV := Lib.hid hv
  have HP := Lib.hid hp
  have hpb := prp_bd hv
  have hb2 : btw t 0 200 = true := btw_iff.2 (by omega)
  have HB := Lib.hid hb2
  clear hb2 hv hp
  go_enter Try.func43, Try.ntmps43
  go_wp2_with (first | (go_at_call 51; (with_reducible refine (ValidPattern_is _ _ _ xs _ HV.out _ (hI.ext (by with_reducible (repeat (first | exact Ext.refl _ | apply Ext.drewN | apply Ext.drew | apply Ext.alloc | (refine Ext.set ?_ (by first | (simp; done) | (simp; omega) | omega) _) | (refine Ext.trans ?_ (by assumption))))))).mono ?_); rintro e w1 ⟨rfl, hx⟩; have hz := hx.size; (try simp at hz); (try (have hq0 : w.heap.size < w1.heap.size := by omega)); (try (have hc0 : ∀ o, w1.cell? ⟨w.heap.size, o, none⟩ = _ := fun o => hx.cells.1 _ o (by first | (simp; done) | (simp; omega) | omega))); (try (have hf0 : ∀ o, w1.frozen? ⟨w.heap.size, o, none⟩ = _ := fun o => hx.cells.2 _ o (by first | (simp; done) | (simp; omega) | omega))); (try (have hq1 : w.heap.size + 1 < w1.heap.size := by omega)); (try (have hc1 : ∀ o, w1.cell? ⟨w.heap.size + 1, o, none⟩ = _ := fun o => hx.cells.1 _ o (by first | (simp; done) | (simp; omega) | omega))); (try (have hf1 : ∀ o, w1.frozen? ⟨w.heap.size + 1, o, none⟩ = _ := fun o => hx.cells.2 _ o (by first | (simp; done) | (simp; omega) | omega))); (try (have hq2 : w.heap.size + 2 < w1.heap.size := by omega)); (try (have hc2 : ∀ o, w1.cell? ⟨w.heap.size + 2, o, none⟩ = _ := fun o => hx.cells.1 _ o (by first | (simp; done) | (simp; omega) | omega))); (try (have hf2 : ∀ o, w1.frozen? ⟨w.heap.size + 2, o, none⟩ = _ := fun o => hx.cells.2 _ o (by first | (simp; done) | (simp; omega) | omega)))) | (go_at_call 52; (with_reducible refine (propsOf_is _ _ _ xs _ (hI.ext (by with_reducible (repeat (first | exact Ext.refl _ | apply Ext.drewN | apply Ext.drew | apply Ext.alloc | (refine Ext.set ?_ (by first | (simp; done) | (simp; omega) | omega) _) | (refine Ext.trans ?_ (by assumption)))))) HV.out).mono ?_); rintro e w' ⟨rfl, rfl⟩) | (go_at_call 47; (with_reducible refine (between_is p _ _ _ HP.out _).mono ?_); rintro e w' ⟨rfl, rfl⟩) | (go_at_call 47; (with_reducible refine (between_is t 0 200 _ HB.out _).mono ?_); rintro e w' ⟨rfl, rfl⟩))
  go_ret2
  exact RetRow.of_nil rfl (by with_reducible (repeat (first | exact Ext.refl _ | apply Ext.drewN | apply Ext.drew | apply Ext.alloc | (refine Ext.set ?_ (by first | (simp; done) | (simp; omega) | omega) _) | (refine Ext.trans ?_ (by assumption)))))
theorem implPropBeats_yes (A : Option Addr) (n c : Nat) (xs : List Int) (p : Int) (t : Nat) (w : World) (hI : Ints w A n xs) (hr : pbc xs p t = 0) :
    Calls Try.prog 12 #[.slice A n c, .int .i64 p, .int .i64 t] w (RetRow w 2 1 (pbn (thAt xs) p t) (pbs (thAt xs) p t) 0) := by
  have HC := Lib.hid (pbc_zero hr).1
  have HR := Lib.hid hr
  clear hr
  go_enter Try.func12, Try.ntmps12
  go_wp2_with (first | (go_at_call 33; (with_reducible refine (rowsCode_is _ _ _ xs _ _ (hI.ext (by with_reducible (repeat (first | exact Ext.refl _ | apply Ext.drewN | apply Ext.drew | apply Ext.alloc | (refine Ext.set ?_ (by first | (simp; done) | (simp; omega) | omega) _) | (refine Ext.trans ?_ (by assumption)))))) 0 HC).mono ?_); rintro e w1 ⟨rfl, hx⟩; have hz := hx.size; (try simp at hz); (try (have hq0 : w.heap.size < w1.heap.size := by omega)); (try (have hc0 : ∀ o, w1.cell? ⟨w.heap.size, o, none⟩ = _ := fun o => hx.cells.1 _ o (by first | (simp; done) | (simp; omega) | omega))); (try (have hf0 : ∀ o, w1.frozen? ⟨w.heap.size, o, none⟩ = _ := fun o => hx.cells.2 _ o (by first | (simp; done) | (simp; omega) | omega))); (try (have hq1 : w.heap.size + 1 < w1.heap.size := by omega)); (try (have hc1 : ∀ o, w1.cell? ⟨w.heap.size + 1, o, none⟩ = _ := fun o => hx.cells.1 _ o (by first | (simp; done) | (simp; omega) | omega))); (try (have hf1 : ∀ o, w1.frozen? ⟨w.heap.size + 1, o, none⟩ = _ := fun o => hx.cells.2 _ o (by first | (simp; done) | (simp; omega) | omega))); (try (have hq2 : w.heap.size + 2 < w1.heap.size := by omega)); (try (have hc2 : ∀ o, w1.cell? ⟨w.heap.size + 2, o, none⟩ = _ := fun o => hx.cells.1 _ o (by first | (simp; done) | (simp; omega) | omega))); (try (have hf2 : ∀ o, w1.frozen? ⟨w.heap.size + 2, o, none⟩ = _ := fun o => hx.cells.2 _ o (by first | (simp; done) | (simp; omega) | omega)))) | (go_at_call 43; (with_reducible refine (throwsOfProp_yes _ _ _ xs p t _ (hI.ext (by with_reducible (repeat (first | exact Ext.refl _ | apply Ext.drewN | apply Ext.drew | apply Ext.alloc | (refine Ext.set ?_ (by first | (simp; done) | (simp; omega) | omega) _) | (refine Ext.trans ?_ (by assumption)))))) HR.out).mono ?_); rintro e w2 ⟨A1, c1, rfl, hrow, hx2⟩))
  go_ret2
  exact ⟨A1, c1, rfl, hrow.lower (Ext.size (by with_reducible (repeat (first | exact Ext.refl _ | apply Ext.drewN | apply Ext.drew | apply Ext.alloc | (refine Ext.set ?_ (by first | (simp; done) | (simp; omega) | omega) _) | (refine Ext.trans ?_ (by assumption)))))), Ext.trans (by with_reducible (repeat (first | exact Ext.refl _ | apply Ext.drewN | apply Ext.drew | apply Ext.alloc | (refine Ext.set ?_ (by first | (simp; done) | (simp; omega) | omega) _) | (refine Ext.trans ?_ (by assumption))))) hx2⟩
theorem implPropBeats_no (A : Option Addr) (n c : Nat) (xs : List Int) (p t : Int) (w : World) (hI : Ints w A n xs) (hr : ¬ pbc xs p t = 0) :
    Calls Try.prog 12 #[.slice A n c, .int .i64 p, .int .i64 t] w (RetRow w 2 1 0 [] (pbc xs p t)) := by
  unfold pbc at hr ⊢
  by_cases h0 : rcd xs t = 0
  · rw [if_pos h0] at hr ⊢
    obtain ⟨hv, ht⟩ := rcd_zero h0
    cases hp : btw p 0 (prp xs - 1)
    · rw [if_neg (show ¬ false = true by simp)]
      have HV := Lib.hid hv
      have HC := Lib.hid h0
      have HP := Lib.hid hp
      have hpb := prp_bd hv
      clear hr h0 hv hp
      go_enter Try.func12, Try.ntmps12
      go_wp2_with (first | (go_at_call 33; (with_reducible refine (rowsCode_is _ _ _ xs _ _ (hI.ext (by with_reducible (repeat (first | exact Ext.refl _ | apply Ext.drewN | apply Ext.drew | apply Ext.alloc | (refine Ext.set ?_ (by first | (simp; done) | (simp; omega) | omega) _) | (refine Ext.trans ?_ (by assumption)))))) 0 HC).mono ?_); rintro e w1 ⟨rfl, hx⟩; have hz := hx.size; (try simp at hz); (try (have hq0 : w.heap.size < w1.heap.size := by omega)); (try (have hc0 : ∀ o, w1.cell? ⟨w.heap.size, o, none⟩ = _ := fun o => hx.cells.1 _ o (by first | (simp; done) | (simp; omega) | omega))); (try (have hf0 : ∀ o, w1.frozen? ⟨w.heap.size, o, none⟩ = _ := fun o => hx.cells.2 _ o (by first | (simp; done) | (simp; omega) | omega))); (try (have hq1 : w.heap.size + 1 < w1.heap.size := by omega)); (try (have hc1 : ∀ o, w1.cell? ⟨w.heap.size + 1, o, none⟩ = _ := fun o => hx.cells.1 _ o (by first | (simp; done) | (simp; omega) | omega))); (try (have hf1 : ∀ o, w1.frozen? ⟨w.heap.size + 1, o, none⟩ = _ := fun o => hx.cells.2 _ o (by first | (simp; done) | (simp; omega) | omega))); (try (have hq2 : w.heap.size + 2 < w1.heap.size := by omega)); (try (have hc2 : ∀ o, w1.cell? ⟨w.heap.size + 2, o, none⟩ = _ := fun o => hx.cells.1 _ o (by first | (simp; done) | (simp; omega) | omega))); (try (have hf2 : ∀ o, w1.frozen? ⟨w.heap.size + 2, o, none⟩ = _ := fun o => hx.cells.2 _ o (by first | (simp; done) | (simp; omega) | omega)))) | (go_at_call 43; (with_reducible refine (throwsOfProp_no _ _ _ xs p t _ (hI.ext (by with_reducible (repeat (first | exact Ext.refl _ | apply Ext.drewN | apply Ext.drew | apply Ext.alloc | (refine Ext.set ?_ (by first | (simp; done) | (simp; omega) | omega) _) | (refine Ext.trans ?_ (by assumption)))))) HV.out ht HP.out).mono ?_); rintro e w2 ⟨A1, c1, rfl, hrow, hx2⟩))
      go_ret2
      exact ⟨A1, c1, rfl, hrow.lower (Ext.size (by with_reducible (repeat (first | exact Ext.refl _ | apply Ext.drewN | apply Ext.drew | apply Ext.alloc | (refine Ext.set ?_ (by first | (simp; done) | (simp; omega) | omega) _) | (refine Ext.trans ?_ (by assumption)))))), Ext.trans (by with_reducible (repeat (first | exact Ext.refl _ | apply Ext.drewN | apply Ext.drew | apply Ext.alloc | (refine Ext.set ?_ (by first | (simp; done) | (simp; omega) | omega) _) | (refine Ext.trans ?_ (by assumption))))) hx2⟩
    · rw [hp] at hr
      simp at hr
  · rw [if_neg h0] at hr ⊢
    have h1 : (rcd xs t != 0) = true := by simpa using h0
    obtain ⟨r, hr⟩ : ∃ r, rcd xs t = r := ⟨_, rfl⟩
    rw [hr] at h1 ⊢
    have HC := Lib.hid hr
    clear hr
    go_enter Try.func12, Try.ntmps12
    go_wp2_with (first | (go_at_call 33; (with_reducible refine (rowsCode_is _ _ _ xs _ _ (hI.ext (by with_reducible (repeat (first | exact Ext.refl _ | apply Ext.drewN | apply Ext.drew | apply Ext.alloc | (refine Ext.set ?_ (by first | (simp; done) | (simp; omega) | omega) _) | (refine Ext.trans ?_ (by assumption)))))) r HC).mono ?_); rintro e w1 ⟨rfl, hx⟩; have hz := hx.size; (try simp at hz); (try (have hq0 : w.heap.size < w1.heap.size := by omega)); (try (have hc0 : ∀ o, w1.cell? ⟨w.heap.size, o, none⟩ = _ := fun o => hx.cells.1 _ o (by first | (simp; done) | (simp; omega) | omega))); (try (have hf0 : ∀ o, w1.frozen? ⟨w.heap.size, o, none⟩ = _ := fun o => hx.cells.2 _ o (by first | (simp; done) | (simp; omega) | omega))); (try (have hq1 : w.heap.size + 1 < w1.heap.size := by omega)); (try (have hc1 : ∀ o, w1.cell? ⟨w.heap.size + 1, o, none⟩ = _ := fun o => hx.cells.1 _ o (by first | (simp; done) | (simp; omega) | omega))); (try (have hf1 : ∀ o, w1.frozen? ⟨w.heap.size + 1, o, none⟩ = _ := fun o => hx.cells.2 _ o (by first | (simp; done) | (simp; omega) | omega))); (try (have hq2 : w.heap.size + 2 < w1.heap.size := by omega)); (try (have hc2 : ∀ o, w1.cell? ⟨w.heap.size + 2, o, none⟩ = _ := fun o => hx.cells.1 _ o (by first | (simp; done) | (simp; omega) | omega))); (try (have hf2 : ∀ o, w1.frozen? ⟨w.heap.size + 2, o, none⟩ = _ := fun o => hx.cells.2 _ o (by first | (simp; done) | (simp; omega) | omega)))))
    go_ret2
    exact RetRow.of_nil rfl (by with_reducible (repeat (first | exact Ext.refl _ | apply Ext.drewN | apply Ext.drew | apply Ext.alloc | (refine Ext.set ?_ (by first | (simp; done) | (simp; omega) | omega) _) | (refine Ext.trans ?_ (by assumption)))))
theorem implPropBeats_ret (A : Option Addr) (n c : Nat) (xs : List Int) (p t : Int) (w : World) (hI : Ints w A n xs) :
    Calls Try.prog 12 #[.slice A n c, .int .i64 p, .int .i64 t] w (RetRow w 2 1 (pbln xs p t) (pbl xs p t) (pbc xs p t)) := by
  unfold pbln pbl
  by_cases hr : pbc xs p t = 0
  · rw [if_pos hr, if_pos hr, hr]
    obtain ⟨hv, ht⟩ := rcd_zero (pbc_zero hr).1
    obtain ⟨k, rfl⟩ : ∃ k : Nat, t = k := ⟨t.toNat, by omega⟩
    rw [Int.toNat_natCast]
    exact implPropBeats_yes A n c xs p k w hI hr
  · rw [if_neg hr, if_neg hr]
    exact implPropBeats_no A n c xs p t w hI hr
end Go.Proofs.Ytendemigegjbfaa
