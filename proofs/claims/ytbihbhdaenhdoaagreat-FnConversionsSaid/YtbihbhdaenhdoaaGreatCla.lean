/- Whether a list of throws is a pattern: contracts of CollisionOf, ValidPattern, l02Clash, l02Ok. No condition but the stated bounds. -/
import Derived.Test.YtbihbhdaenhdoaaGreatLnd
namespace Go.Proofs.YtbihbhdaenhdoaaGreat
set_option linter.unusedVariables false
set_option linter.unusedSimpArgs false
open Go.RowKit

def NoClash (xs : List Int) (k : Nat) : Prop := ∀ j, j < k → ∀ i, i < j → lnd xs i ≠ lnd xs j
def NoHit (xs : List Int) (k i : Nat) : Prop := ∀ j, j < i → lnd xs j ≠ lnd xs k
instance (xs : List Int) (k : Nat) : Decidable (NoClash xs k) := by unfold NoClash; infer_instance
/-- No two throws land at the same beat of the period. -/
def ncl (xs : List Int) : Bool := decide (NoClash xs xs.length)
/-- The list is a pattern. -/
def vpat (xs : List Int) : Bool := thr xs && ncl xs
theorem NoClash.zero (xs : List Int) : NoClash xs 0 := fun j h => absurd h (by omega)
theorem NoClash.one (xs : List Int) : NoClash xs 1 := fun j h i hi => absurd hi (by omega)
theorem NoHit.zero (xs : List Int) (k : Nat) : NoHit xs k 0 := fun j h => absurd h (by omega)
theorem NoClash.succ {xs : List Int} {k : Nat} (h : NoClash xs k) (hk : NoHit xs k k) : NoClash xs (k + 1) := fun j hj i hi => by
  by_cases e : j = k
  · subst e; exact hk i hi
  · exact h j (by omega) i hi
theorem NoHit.succ {xs : List Int} {k i : Nat} (h : NoHit xs k i) (hk : (lnd xs i == lnd xs k) = false) : NoHit xs k (i + 1) := fun j hj => by
  by_cases e : j = i
  · subst e; simpa using hk
  · exact h j (by omega)
theorem ncl_no {xs : List Int} {k i : Nat} (hk : k < xs.length) (hi : i < k) (h : (lnd xs i == lnd xs k) = true) : ncl xs = false := by
  unfold ncl
  rw [decide_eq_false_iff_not]
  exact fun h' => h' k hk i hi (by simpa using h)
theorem ncl_yes {xs : List Int} (h : NoClash xs xs.length) : ncl xs = true := by
  unfold ncl
  rw [decide_eq_true_iff]
  exact h
/-- What CollisionOf hands back. -/
def RetCol (w : World) (xs : List Int) (e : Ending) (w' : World) : Prop := ∃ a b c : Int, e = .returned (.tuple #[.int .i64 a, .int .i64 b, .int .i64 c]) ∧ Hid ((c == 0) = vpat xs) ∧ Ext w w'
set_option maxHeartbeats 1000000 in
theorem CollisionOf_any (A : Option Addr) (n c : Nat) (xs : List Int) (w : World) (hI : Ints w A n xs) :
    Calls Tryz.prog 88 #[.slice A n c] w (RetCol w xs) := by
  cases ht : thr xs
  · have HV : Hid (((1 : Int) == 0) = vpat xs) := by show _ = _; simp [vpat, ht]
    go_enter Tryz.func88, Tryz.ntmps88
    go_wp2_with (go_at_call 115; (with_reducible refine (areThrows_any A n c xs _ hI).mono ?_); rw [ht]; rintro e w' ⟨rfl, rfl⟩)
    go_ret3
    exact ⟨_, _, _, rfl, HV, (by with_reducible (repeat (first | exact Ext.refl _ | apply Ext.drewN | apply Ext.drew | apply Ext.alloc | (refine Ext.set ?_ (by first | (simp; done) | (simp; omega) | omega) _) | (refine Ext.trans ?_ (by assumption)))))⟩
  · obtain ⟨hb1, hb2, hb3⟩ := thr_iff.1 ht
    have hlen := hI.len
    have HL := Lib.hid hlen
    go_enter Tryz.func88, Tryz.ntmps88
    go_wp2_with fail
    (with_reducible refine (areThrows_any A n c xs _ hI).mono ?_)
    rw [ht]
    rintro e w' ⟨rfl, rfl⟩
    go_wp2_with fail
    (with_reducible refine (landings_any A n c xs _ hI ht).mono ?_)
    rintro e w1 ⟨A1, c1, rfl, hown⟩
    rw [lnds_len] at hown ⊢
    have hn1 : 1 ≤ n := by omega
    have hn2 : n ≤ 12 := by omega
    have hx := hown.ext
    have hI2 := hown.ints (lnds_len xs n) (by omega) (fun y hy => by
      obtain ⟨i, _, rfl⟩ := List.mem_map.1 hy
      have := lnd_bd i (xs := xs) (by omega) (by omega)
      omega)
    obtain ⟨b, off, rfl, hb, hcell0⟩ := hI2.at_ (by omega)
    have hcell : Hid (∀ i, i < n → w1.cell? ⟨b, off + i, none⟩ = some (.int .i64 (lnd xs i))) := fun i hi => by
      rw [hcell0 i hi, lnds_get hi]
    clear hcell0 hI2 hown hlen hb1 hb2 hb3 hI
    go_wp2
    go_loopw [15] (fun i wr => ∃ k : Nat, k ≤ n ∧ i = .int .i64 k ∧ NoClash xs k ∧ Qt w1 wr) (fun i _ => n - (intOf i).toNat)
    case atStart => exact ⟨0, Nat.zero_le _, rfl, NoClash.zero xs, Qt.refl _⟩
    case round =>
      obtain ⟨k, hk, rfl, hno, m, rfl⟩ := hrel
      by_cases hlt : k < n
      · go_wp2
        obtain ⟨wo, hwo⟩ : ∃ wo : World, w1.drewN m = wo := ⟨_, rfl⟩
        have HWO : Hid (w1.drewN m = wo) := hwo
        rw [hwo]
        clear hwo
        go_loopw [19] (fun i wr => ∃ q : Nat, q ≤ k ∧ i = .int .i64 q ∧ NoHit xs k q ∧ Qt w1 wr) (fun i _ => k - (intOf i).toNat)
        case atStart => exact ⟨0, Nat.zero_le _, rfl, NoHit.zero xs k, ⟨m, HWO.out.symm⟩⟩
        case round =>
          obtain ⟨q, hq, rfl, hhit, m2, rfl⟩ := hrel
          by_cases hlq : q < k
          · have c1 := hcell.out q (by omega)
            have c2 := hcell.out k (by omega)
            have i1 : (q : Int) < n := by omega
            have i2 : (k : Int) < n := by omega
            cases hh : (lnd xs q == lnd xs k)
            · go_wp2
              go_quiet (fail)
              go_wp2
              go_roundw
              case rel => exact ⟨q + 1, by omega, by go_num, hhit.succ hh, ⟨_, rfl⟩⟩
              case measure => simp [intOf]; omega
            · have HV : Hid (((9 : Int) == 0) = vpat xs) := by show _ = _; simp [vpat, ncl_no (by rw [HL.out]; exact hlt) hlq hh]
              go_wp2
              go_quiet (fail)
              go_wp2
              go_ret3
              exact ⟨_, _, _, rfl, HV, (by with_reducible (repeat (first | exact Ext.refl _ | apply Ext.drewN | apply Ext.drew | apply Ext.alloc | (refine Ext.set ?_ (by first | (simp; done) | (simp; omega) | omega) _) | (refine Ext.trans ?_ (by assumption)))))⟩
          · obtain rfl : q = k := by omega
            go_wp2
            go_roundw
            case rel => exact ⟨q + 1, by omega, by go_num, hno.succ hhit, ⟨_, rfl⟩⟩
            case measure => simp [intOf]; omega
      · obtain rfl : k = n := by omega
        have HV : Hid (((0 : Int) == 0) = vpat xs) := by show _ = _; simp [vpat, ht, ncl_yes (by rw [HL.out]; exact hno)]
        go_wp2
        go_ret3
        exact ⟨_, _, _, rfl, HV, (by with_reducible (repeat (first | exact Ext.refl _ | apply Ext.drewN | apply Ext.drew | apply Ext.alloc | (refine Ext.set ?_ (by first | (simp; done) | (simp; omega) | omega) _) | (refine Ext.trans ?_ (by assumption)))))⟩
theorem ValidPattern_any (A : Option Addr) (n c : Nat) (xs : List Int) (w : World) (hI : Ints w A n xs) :
    Calls Tryz.prog 52 #[.slice A n c] w fun e w' => e = .returned (.bool (vpat xs)) ∧ Ext w w' := by
  go_enter Tryz.func52, Tryz.ntmps52
  go_wp2_with fail
  (with_reducible refine (CollisionOf_any A n c xs _ hI).mono ?_)
  rintro e w1 ⟨a, b, c, rfl, HV, hx⟩
  go_wp2
  go_ret
  exact ⟨ret_bool HV.out, (by with_reducible (repeat (first | exact Ext.refl _ | apply Ext.drewN | apply Ext.drew | apply Ext.alloc | (refine Ext.set ?_ (by first | (simp; done) | (simp; omega) | omega) _) | (refine Ext.trans ?_ (by assumption)))))⟩
theorem ValidPattern_is (A : Option Addr) (n c : Nat) (xs : List Int) (v : Bool) (hv : vpat xs = v) (w : World) (hI : Ints w A n xs) :
    Calls Tryz.prog 52 #[.slice A n c] w fun e w' => e = .returned (.bool v) ∧ Ext w w' := by
  subst hv
  exact ValidPattern_any A n c xs w hI
def RetCla (w : World) (xs : List Int) (e : Ending) (w' : World) : Prop := ∃ a b : Int, e = .returned (.tuple #[.int .i64 a, .int .i64 b]) ∧ Hid (decide (a < 0) = ncl xs) ∧ Qt w w'
set_option maxHeartbeats 1000000 in
theorem l02Clash_any (A : Option Addr) (n c : Nat) (xs : List Int) (w : World) (hI : Ints w A n xs) (ht : thr xs = true) :
    Calls Tryz.prog 98 #[.slice A n c] w (RetCla w xs) := by
  obtain ⟨hb1, hb2, hb3⟩ := thr_iff.1 ht
  have hlen := hI.len
  rw [hlen] at hb1 hb2 hb3
  obtain ⟨b, off, rfl, hb, hcell⟩ := hI.at_ (by omega)
  have hcell := Lib.hid hcell
  have hb1 := Lib.hid hb1
  have HL := Lib.hid hlen
  clear hlen hI ht
  go_enter Tryz.func98, Tryz.ntmps98
  go_wp2
  go_loopw [5] (fun i wr => ∃ k : Nat, 1 ≤ k ∧ k ≤ n ∧ i = .int .i64 k ∧ NoClash xs k ∧ Qt w wr) (fun i _ => n - (intOf i).toNat)
  case atStart => exact ⟨1, by omega, by omega, rfl, NoClash.one xs, Qt.refl _⟩
  case round =>
    obtain ⟨k, hk1, hk, rfl, hno, m, rfl⟩ := hrel
    by_cases hlt : k < n
    · go_wp2
      obtain ⟨wo, hwo⟩ : ∃ wo : World, w.drewN m = wo := ⟨_, rfl⟩
      have HWO : Hid (w.drewN m = wo) := hwo
      rw [hwo]
      clear hwo
      go_loopw [6] (fun i wr => ∃ q : Nat, q ≤ k ∧ i = .int .i64 q ∧ NoHit xs k q ∧ Qt w wr) (fun i _ => k - (intOf i).toNat)
      case atStart => exact ⟨0, Nat.zero_le _, rfl, NoHit.zero xs k, ⟨m, HWO.out.symm⟩⟩
      case round =>
        obtain ⟨q, hq, rfl, hhit, m2, rfl⟩ := hrel
        by_cases hlq : q < k
        · have c1 := hcell.out q (by omega)
          have c2 := hcell.out k (by omega)
          have d1 := hb1.out q (by omega)
          have d2 := hb1.out k (by omega)
          have i1 : (q : Int) < n := by omega
          have i2 : (k : Int) < n := by omega
          have f1 := lnd_bd q (xs := xs) (by rw [HL.out]; omega) (by rw [HL.out]; omega)
          have f2 := lnd_bd k (xs := xs) (by rw [HL.out]; omega) (by rw [HL.out]; omega)
          have e5 : ¬ ((n : Int) = 0) := by omega
          have e1 : IntKind.i64.wrap ((q : Int) + xs[q]?.getD 0) = (q : Int) + xs[q]?.getD 0 := IntWalk.i64_in _ (by omega)
          have e2 : IntKind.i64.wrap ((k : Int) + xs[k]?.getD 0) = (k : Int) + xs[k]?.getD 0 := IntWalk.i64_in _ (by omega)
          have e3 : ((q : Int) + xs[q]?.getD 0).tmod (n : Int) = lnd xs q := by rw [Int.tmod_eq_emod_of_nonneg (by omega)]; unfold lnd; rw [HL.out]
          have e4 : ((k : Int) + xs[k]?.getD 0).tmod (n : Int) = lnd xs k := by rw [Int.tmod_eq_emod_of_nonneg (by omega)]; unfold lnd; rw [HL.out]
          cases hh : (lnd xs q == lnd xs k)
          · go_wp2
            go_quiet (fail)
            clear e1 e2 e3 e4 e5
            go_wp2
            go_roundw
            case rel => exact ⟨q + 1, by omega, by go_num, hhit.succ hh, ⟨_, rfl⟩⟩
            case measure => simp [intOf]; omega
          · have HV : Hid (decide ((q : Int) < 0) = ncl xs) := by
              show _ = _
              rw [ncl_no (by rw [HL.out]; exact hlt) hlq hh]
              simp
            go_wp2
            go_quiet (fail)
            clear e1 e2 e3 e4 e5
            go_wp2
            go_ret2
            exact ⟨_, _, rfl, HV, (by first | exact ⟨_, rfl⟩ | exact ⟨_, World.drewN_drewN _ _ _⟩)⟩
        · obtain rfl : q = k := by omega
          go_wp2
          go_roundw
          case rel => exact ⟨q + 1, by omega, by omega, by go_num, hno.succ hhit, ⟨_, rfl⟩⟩
          case measure => simp [intOf]; omega
    · obtain rfl : k = n := by omega
      have HV : Hid (decide ((-1 : Int) < 0) = ncl xs) := by
        show _ = _
        rw [ncl_yes (by rw [HL.out]; exact hno)]
        rfl
      go_wp2
      go_ret2
      exact ⟨_, _, rfl, HV, (by first | exact ⟨_, rfl⟩ | exact ⟨_, World.drewN_drewN _ _ _⟩)⟩
theorem l02Ok_any (A : Option Addr) (n c : Nat) (xs : List Int) (w : World) (hI : Ints w A n xs) :
    Calls Tryz.prog 66 #[.slice A n c] w fun e w' => e = .returned (.bool (vpat xs)) ∧ Qt w w' := by
  cases ht : thr xs
  · have HV : Hid (false = vpat xs) := by show _ = _; simp [vpat, ht]
    go_enter Tryz.func66, Tryz.ntmps66
    go_wp2_with (go_at_call 97; (with_reducible refine (l02List_any A n c xs _ hI).mono ?_); rw [ht]; rintro e w' ⟨rfl, rfl⟩)
    go_ret
    exact ⟨ret_bool HV.out, Qt.refl _⟩
  · have HV : Hid (ncl xs = vpat xs) := by show _ = _; simp [vpat, ht]
    go_enter Tryz.func66, Tryz.ntmps66
    go_wp2_with fail
    (with_reducible refine (l02List_any A n c xs _ hI).mono ?_)
    rw [ht]
    rintro e w' ⟨rfl, rfl⟩
    go_wp2_with fail
    (with_reducible refine (l02Clash_any A n c xs _ hI ht).mono ?_)
    rintro e w1 ⟨a, b, rfl, HA, m, rfl⟩
    go_wp2
    go_ret
    exact ⟨ret_bool (HA.out.trans HV.out), (by first | exact ⟨_, rfl⟩ | exact ⟨_, World.drewN_drewN _ _ _⟩)⟩
theorem l02Ok_is (A : Option Addr) (n c : Nat) (xs : List Int) (v : Bool) (hv : vpat xs = v) (w : World) (hI : Ints w A n xs) :
    Calls Tryz.prog 66 #[.slice A n c] w fun e w' => e = .returned (.bool v) ∧ Qt w w' := by
  subst hv
  exact l02Ok_any A n c xs w hI
end Go.Proofs.YtbihbhdaenhdoaaGreat
