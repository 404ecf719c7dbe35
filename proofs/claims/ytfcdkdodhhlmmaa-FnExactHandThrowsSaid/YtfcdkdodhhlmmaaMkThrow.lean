/- Contracts of the laws' marks and comparisons on slices of HandThrow. No condition but the stated bounds. -/
import Derived.Test.YtfcdkdodhhlmmaaRow
import Derived.Deep.RegionHeld3
namespace Go.Proofs.Ytfcdkdodhhlmmaa
set_option linter.unusedVariables false
set_option linter.unusedSimpArgs false
open Go.RowKit Go.Joins
set_option maxHeartbeats 1000000 in
theorem heldHandThrowS_any (A : Option Addr) (n c : Nat) (k : Int) (w : World) (hI : Ints w A (n * 4) (marks k (n * 4))) (hk : 0 ≤ k ∧ k ≤ 1000000000) (hn : n ≤ 1048576) :
    Calls Try.prog 31 #[.slice A n c, .int .i64 k] w fun e w' => e = .returned (.int .i64 (k + ((n * 4 : Nat) : Int))) ∧ Qt w w' := by
  go_enter Try.func31, Try.ntmps31
  go_wp2
  go_loop [1, 5] (fun s i => ∃ j : Nat, j ≤ n ∧ i = .int .i64 j ∧ s = .int .i64 (k + 4 * j)) (fun _ i => n - (intOf i).toNat)
  case atStart => exact ⟨0, Nat.zero_le _, rfl, by go_num⟩
  case round =>
    obtain ⟨j, hj, rfl, rfl⟩ := hrel
    by_cases hlt : j < n
    · obtain ⟨b, off, hA, hb, hcell⟩ := hI.at_ (by omega)
      subst hA
      have hc0 := hcell (j * 4) (by omega)
      rw [marks_get (show j * 4 < n * 4 by omega), show k + ((j * 4 : Nat) : Int) = k + 4 * (j : Int) + 0 by omega] at hc0
      (try rw [Nat.add_zero] at hc0)
      have hc1 := hcell (j * 4 + 1) (by omega)
      rw [marks_get (show j * 4 + 1 < n * 4 by omega), show k + ((j * 4 + 1 : Nat) : Int) = k + 4 * (j : Int) + 1 by omega] at hc1
      (try rw [Nat.add_zero] at hc1)
      have hc2 := hcell (j * 4 + 2) (by omega)
      rw [marks_get (show j * 4 + 2 < n * 4 by omega), show k + ((j * 4 + 2 : Nat) : Int) = k + 4 * (j : Int) + 2 by omega] at hc2
      (try rw [Nat.add_zero] at hc2)
      have hc3 := hcell (j * 4 + 3) (by omega)
      rw [marks_get (show j * 4 + 3 < n * 4 by omega), show k + ((j * 4 + 3 : Nat) : Int) = k + 4 * (j : Int) + 3 by omega] at hc3
      (try rw [Nat.add_zero] at hc3)
      (try rw [Int.add_zero] at hc0)
      (try simp only [← Nat.add_assoc] at hc1 hc2 hc3)
      clear hcell
      go_wp2
      go_round
      case rel => exact ⟨j + 1, by omega, by go_num, by go_num⟩
      case measure => simp [intOf]; omega
    · obtain rfl : j = n := by omega
      go_wp2
      go_ret
      exact ⟨ret_int (by omega), Qt.refl _⟩
theorem heldHandThrowS_is (A : Option Addr) (n c : Nat) (k K : Int) (w : World) (hI : Ints w A (n * 4) (marks k (n * 4))) (hk : 0 ≤ k ∧ k ≤ 1000000000) (hn : n ≤ 1048576) (hK : K = k + ((n * 4 : Nat) : Int)) :
    Calls Try.prog 31 #[.slice A n c, .int .i64 k] w fun e w' => e = .returned (.int .i64 K) ∧ Qt w w' := by
  subst hK
  exact heldHandThrowS_any A n c k w hI hk hn
set_option maxHeartbeats 2000000 in
theorem markHandThrowS_own (lo hi : Nat) (A : Option Addr) (n c : Nat) (k : Int) (xs : List Int) (w : World) (hO : Row w lo hi 47 4 A n c xs) (hk : 0 ≤ k ∧ k ≤ 1000000000) (hn : n ≤ 1048576) :
    Calls Try.prog 30 #[.slice A n c, .int .i64 k] w (Markd w lo hi 47 4 A n c k) := by
  have hl := hO.len
  rcases Nat.eq_zero_or_pos n with h0 | hp
  · subst h0
    have H := Lib.hid hO
    clear hO hl
    go_enter Try.func30, Try.ntmps30
    go_wp2
    go_loop [1, 5] (fun s i => i = .int .i64 0 ∧ s = .int .i64 k) (fun _ i => 0)
    case atStart => exact ⟨rfl, rfl⟩
    case round =>
      obtain ⟨rfl, rfl⟩ := hrel
      go_wp2
      go_ret
      exact ⟨_, rfl, by omega, World.grownBy.refl _ _, H.out.empty_marks k⟩
  · obtain ⟨g, rfl⟩ := hO.form hp
    have H0 := Mkd.zero hO k
    clear hO
    have HL := Lib.hid hl
    clear hl
    go_enter Try.func30, Try.ntmps30
    go_wp2
    go_loopw [1, 5] (fun s i wr => ∃ j : Nat, j ≤ n ∧ i = .int .i64 j ∧ s = .int .i64 (k + 4 * j) ∧ Mkd w wr lo hi 47 4 g n c xs k (j * 4)) (fun _ i _ => n - (intOf i).toNat)
    case atStart => exact ⟨0, Nat.zero_le _, rfl, by go_num, by rw [Nat.zero_mul]; exact H0⟩
    case round =>
      obtain ⟨j, hj, rfl, rfl, hm⟩ := hrel
      by_cases hlt : j < n
      · have hcs := hm.cell (by rw [HL.out]; omega) HL.out
        obtain ⟨u0, hc0⟩ := hcs (j * 4) (by omega)
        have hf0 := hm.frozen (j * 4)
        obtain ⟨u1, hc1⟩ := hcs (j * 4 + 1) (by omega)
        have hf1 := hm.frozen (j * 4 + 1)
        obtain ⟨u2, hc2⟩ := hcs (j * 4 + 2) (by omega)
        have hf2 := hm.frozen (j * 4 + 2)
        obtain ⟨u3, hc3⟩ := hcs (j * 4 + 3) (by omega)
        have hf3 := hm.frozen (j * 4 + 3)
        clear hcs
        go_wp2
        go_roundw
        case rel =>
          refine ⟨j + 1, by omega, by go_num, by go_num, ?_⟩
          rw [show (j + 1) * 4 = j * 4 + 4 by omega]
          exact Mkd.store (Mkd.store (Mkd.store (Mkd.store hm (by rw [HL.out]; omega) (by omega) (by omega)) (by rw [HL.out]; omega) (by omega) (by omega)) (by rw [HL.out]; omega) (by omega) (by omega)) (by rw [HL.out]; omega) (by omega) (by omega)
        case measure => simp [intOf]; omega
      · obtain rfl : j = n := by omega
        go_wp2
        go_ret
        have := hm.all (by rw [HL.out])
        rw [HL.out] at this
        exact ⟨_, rfl, by omega, hm.2, this⟩
theorem eqHandThrow_same (a b c d : Int) (w : World) :
    Calls Try.prog 51 #[.agg #[.int .i64 a, .int .i64 b, .int .i64 c, .int .i64 d], .agg #[.int .i64 a, .int .i64 b, .int .i64 c, .int .i64 d]] w fun e w' => e = .returned (.bool true) ∧ Ext w w' := by
  go_enter Try.func51, Try.ntmps51
  go_wp2
  go_ret
  exact ⟨rfl, (by with_reducible (repeat (first | exact Ext.refl _ | apply Ext.drewN | apply Ext.drew | apply Ext.alloc | (refine Ext.set ?_ (by first | (simp; done) | (simp; omega) | omega) _) | (refine Ext.trans ?_ (by assumption)))))⟩
set_option maxHeartbeats 1000000 in
theorem eqHandThrowS_row (A B : Option Addr) (n c d : Nat) (xs : List Int) (w : World) (hI : Ints w A (n * 4) xs) (hJ : Ints w B (n * 4) xs) (hn : n ≤ 1000000000) :
    Calls Try.prog 29 #[.slice A n c, .slice B n d] w (fun e w' => e = .returned (.bool true) ∧ Ext w w') := by
  go_enter Try.func29, Try.ntmps29
  go_wp2
  go_loopw [5] (fun i wr => ∃ k : Nat, k ≤ n ∧ i = .int .i64 k ∧ Ext w wr) (fun i _ => n - (intOf i).toNat)
  case atStart => exact ⟨0, Nat.zero_le _, rfl, Ext.refl _⟩
  case round =>
    obtain ⟨j, hj, rfl, hx⟩ := hrel
    by_cases hlt : j < n
    · obtain ⟨b, off, hA, hb, hcell⟩ := (hI.ext hx).at_ (by omega)
      obtain ⟨b2, off2, hB, hb2, hcell2⟩ := (hJ.ext hx).at_ (by omega)
      subst hA hB
      have i1 : (j : Int) < n := by omega
      have c0 := hcell (j * 4) (by omega)
      have d0 := hcell2 (j * 4) (by omega)
      (try rw [← Nat.add_assoc] at c0 d0)
      have c1 := hcell (j * 4 + 1) (by omega)
      have d1 := hcell2 (j * 4 + 1) (by omega)
      (try rw [← Nat.add_assoc] at c1 d1)
      have c2 := hcell (j * 4 + 2) (by omega)
      have d2 := hcell2 (j * 4 + 2) (by omega)
      (try rw [← Nat.add_assoc] at c2 d2)
      have c3 := hcell (j * 4 + 3) (by omega)
      have d3 := hcell2 (j * 4 + 3) (by omega)
      (try rw [← Nat.add_assoc] at c3 d3)
      generalize xs[j * 4]?.getD 0 = x0 at c0 d0
      generalize xs[j * 4 + 1]?.getD 0 = x1 at c1 d1
      generalize xs[j * 4 + 2]?.getD 0 = x2 at c2 d2
      generalize xs[j * 4 + 3]?.getD 0 = x3 at c3 d3
      clear hcell hcell2
      go_wp2
      go_region_held3 (fun wz => wz.cell? ⟨b, off + j * 4, none⟩ = some (.int .i64 x0) ∧ wz.cell? ⟨b, off + j * 4 + 1, none⟩ = some (.int .i64 x1) ∧ wz.cell? ⟨b, off + j * 4 + 2, none⟩ = some (.int .i64 x2) ∧ wz.cell? ⟨b, off + j * 4 + 3, none⟩ = some (.int .i64 x3) ∧ wz.cell? ⟨b2, off2 + j * 4, none⟩ = some (.int .i64 x0) ∧ wz.cell? ⟨b2, off2 + j * 4 + 1, none⟩ = some (.int .i64 x1) ∧ wz.cell? ⟨b2, off2 + j * 4 + 2, none⟩ = some (.int .i64 x2) ∧ wz.cell? ⟨b2, off2 + j * 4 + 3, none⟩ = some (.int .i64 x3)) (go_keep)
        (first | (go_at_call 51; (with_reducible refine (eqHandThrow_same x0 x1 x2 x3 _).mono ?_); rintro e w1 ⟨rfl, hx1⟩; have hk1 : ∀ o, w1.cell? ⟨b, o, none⟩ = _ := fun o => hx1.cells.1 _ o (by first | (simp; done) | (simp; omega) | omega); have hk2 : ∀ o, w1.cell? ⟨b2, o, none⟩ = _ := fun o => hx1.cells.1 _ o (by first | (simp; done) | (simp; omega) | omega)))
      go_wp2
      go_roundw
      case rel => exact ⟨j + 1, by omega, by go_num, (by with_reducible (repeat (first | exact Ext.refl _ | apply Ext.drewN | apply Ext.drew | apply Ext.alloc | (refine Ext.set ?_ (by first | (simp; done) | (simp; omega) | omega) _) | (refine Ext.trans ?_ (by assumption)))))⟩
      case measure => simp [intOf]; omega
    · obtain rfl : j = n := by omega
      go_wp2
      go_ret
      exact ⟨rfl, (by with_reducible (repeat (first | exact Ext.refl _ | apply Ext.drewN | apply Ext.drew | apply Ext.alloc | (refine Ext.set ?_ (by first | (simp; done) | (simp; omega) | omega) _) | (refine Ext.trans ?_ (by assumption)))))⟩
end Go.Proofs.Ytfcdkdodhhlmmaa
