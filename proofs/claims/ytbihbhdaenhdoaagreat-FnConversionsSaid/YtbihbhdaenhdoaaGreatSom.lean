/- Collisions of synchronous patterns, and whether they are valid: contracts of both sides' functions. No condition but the stated bounds. (tools/gsom.py) -/
import Derived.Test.YtbihbhdaenhdoaaGreatSok
namespace Go.Proofs.YtbihbhdaenhdoaaGreat
set_option linter.unusedVariables false
set_option linter.unusedSimpArgs false
open Go.ChangeShapes Go.WideShapes Go.ChangeAt Go.RowKit Go.Joins Go.Deep

/-- What SyncClash hands back. -/
def RetScl (w : World) (ts : List (Int × Bool)) (e : Ending) (w' : World) : Prop := ∃ a b c : Int, e = .returned (.tuple #[.int .i64 a, .int .i64 b, .int .i64 c]) ∧ Hid ((c == 0) = vsyn ts) ∧ Ext w w'
set_option maxHeartbeats 4000000 in
theorem SyncClash_any (A : Option Addr) (n c : Nat) (ts : List (Int × Bool)) (w : World) (hI : Syn w A n ts) :
    Calls Tryz.prog 92 #[.slice A n c] w (RetScl w ts) := by
  have HL := Lib.hid hI.len
  cases ht : slis ts
  · have HV : Hid (((1 : Int) == 0) = vsyn ts) := by show _ = _; simp [vsyn, ht]
    go_enter Tryz.func92, Tryz.ntmps92
    go_wp2_with fail
    (with_reducible refine (areSyncBeats_any A n c ts _ hI).mono ?_)
    rw [ht]
    rintro e w1 ⟨rfl, hx1⟩
    go_wp2
    go_ret3
    exact ⟨_, _, _, rfl, HV, hx1⟩
  obtain ⟨hn1, hn6, hsk⟩ := slis_iff HL.out ht
  have HSOK := Lib.hid hsk
  clear hsk
  go_enter Tryz.func92, Tryz.ntmps92
  go_wp2_with fail
  (with_reducible refine (areSyncBeats_any A n c ts _ hI).mono ?_)
  rw [ht]
  rintro e w0 ⟨rfl, hx0⟩
  have HT := Lib.hid ht
  clear ht
  go_wp2
  go_loopw [13] (fun i wr => ∃ k : Nat, 0 ≤ k ∧ k ≤ 2 * n ∧ i = .int .i64 k ∧ NoClS n ts k ∧ Ext w wr) (fun i _ => 2 * n - (intOf i).toNat)
  case atStart => exact ⟨0, by omega, by omega, rfl, NoClS.zero n ts, (by with_reducible (repeat (first | exact Ext.refl _ | apply Ext.drewN | apply Ext.drew | apply Ext.alloc | (refine Ext.set ?_ (by first | (simp; done) | (simp; omega) | omega) _) | (refine Ext.trans ?_ (by assumption)))))⟩
  case round =>
    obtain ⟨k, hk1, hk, rfl, hno, hx⟩ := hrel
    have HNO := Lib.hid hno
    clear hno
    by_cases hlt : k < 2 * n
    · have hki : (k : Int) < 2 * n := by omega
      go_wp2
      obtain ⟨wo, hwo⟩ : ∃ wo : World, wr = wo := ⟨_, rfl⟩
      subst hwo
      go_loopw [17] (fun i wq => ∃ q : Nat, q ≤ k ∧ i = .int .i64 q ∧ NoHiS n ts k q ∧ Ext w wq) (fun i _ => k - (intOf i).toNat)
      case atStart => exact ⟨0, Nat.zero_le _, rfl, NoHiS.zero n ts k, hx⟩
      case round =>
        obtain ⟨q, hq, rfl, hhit, hx2⟩ := hrel
        have HHIT := Lib.hid hhit
        clear hhit
        by_cases hlq : q < k
        · have hqi : (q : Int) < k := by omega
          have hq2 : q < 2 * n := by omega
          obtain ⟨x, hx0⟩ : ∃ x, sl n ts q = x := ⟨_, rfl⟩
          obtain ⟨y, hy0⟩ : ∃ y, sl n ts k = y := ⟨_, rfl⟩
          have HX := Lib.hid hx0
          have HY := Lib.hid hy0
          clear hx0 hy0
          go_wp2_with fail
          (with_reducible refine (syncLanding_any A n c ts q hq2 (by omega) (HSOK.out q hq2) _ (hI.ext (by with_reducible (repeat (first | exact Ext.refl _ | apply Ext.drewN | apply Ext.drew | apply Ext.alloc | (refine Ext.set ?_ (by first | (simp; done) | (simp; omega) | omega) _) | (refine Ext.trans ?_ (by assumption))))))).mono ?_)
          rw [HX.out]
          rintro e w1 ⟨rfl, hx1⟩
          have hE1 : Ext w w1 := hx2.trans hx1
          clear hx1
          go_wp2_with fail
          (with_reducible refine (syncLanding_any A n c ts k hlt (by omega) (HSOK.out k hlt) _ (hI.ext hE1)).mono ?_)
          rw [HY.out]
          rintro e w2 ⟨rfl, hx3⟩
          have hE2 : Ext w w2 := hE1.trans hx3
          clear hx3
          by_cases he : x = y
          · subst he
            have HF : Hid (scl ts = false) := scl_no HL.out hlt hlq (HX.out.trans HY.out.symm)
            go_wp2
            have HV : Hid (((9 : Int) == 0) = vsyn ts) := by show _ = _; simp [vsyn, HF.out]
            go_ret3
            exact ⟨_, _, _, rfl, HV, hE2⟩
          · have he2 : ¬ (x : Int) = y := by omega
            have HG : Hid (NoHiS n ts k (q + 1)) := HHIT.out.succ (by rw [HX.out, HY.out]; exact he)
            go_wp2
            go_roundw
            case rel => exact ⟨q + 1, by omega, by go_num, HG.out, hE2⟩
            case measure => simp [intOf]; omega
        · obtain rfl : q = k := by omega
          have HG : Hid (NoClS n ts (q + 1)) := HNO.out.succ HHIT.out
          go_wp2
          go_roundw
          case rel => exact ⟨q + 1, by omega, by omega, by go_num, HG.out, hx2⟩
          case measure => simp [intOf]; omega
    · obtain rfl : k = 2 * n := by omega
      have HF : Hid (scl ts = true) := scl_yes HL.out HNO.out
      go_wp2
      have HV : Hid (((0 : Int) == 0) = vsyn ts) := by show _ = _; simp [vsyn, HF.out, HT.out]
      go_ret3
      exact ⟨_, _, _, rfl, HV, hx⟩
theorem ValidSync_any (A : Option Addr) (n c : Nat) (ts : List (Int × Bool)) (w : World) (hI : Syn w A n ts) :
    Calls Tryz.prog 54 #[.slice A n c] w fun e w' => e = .returned (.bool (vsyn ts)) ∧ Ext w w' := by
  go_enter Tryz.func54, Tryz.ntmps54
  go_wp2_with fail
  (with_reducible refine (SyncClash_any A n c ts _ hI).mono ?_)
  rintro e w1 ⟨a, b, c, rfl, HV, hx⟩
  go_wp2
  go_ret
  exact ⟨ret_bool HV.out, (by with_reducible (repeat (first | exact Ext.refl _ | apply Ext.drewN | apply Ext.drew | apply Ext.alloc | (refine Ext.set ?_ (by first | (simp; done) | (simp; omega) | omega) _) | (refine Ext.trans ?_ (by assumption)))))⟩
theorem ValidSync_is (A : Option Addr) (n c : Nat) (ts : List (Int × Bool)) (v : Bool) (hv : vsyn ts = v) (w : World) (hI : Syn w A n ts) :
    Calls Tryz.prog 54 #[.slice A n c] w fun e w' => e = .returned (.bool v) ∧ Ext w w' := by
  subst hv
  exact ValidSync_any A n c ts w hI
def RetScs (w : World) (ts : List (Int × Bool)) (e : Ending) (w' : World) : Prop := ∃ a b : Int, e = .returned (.tuple #[.int .i64 a, .int .i64 b]) ∧ Hid (decide (a < 0) = scl ts) ∧ Ext w w'
set_option maxHeartbeats 4000000 in
theorem l05Clash_any (A : Option Addr) (n c : Nat) (ts : List (Int × Bool)) (w : World) (hI : Syn w A n ts) (ht : slis ts = true) :
    Calls Tryz.prog 103 #[.slice A n c] w (RetScs w ts) := by
  have HL := Lib.hid hI.len
  obtain ⟨hn1, hn6, hsk⟩ := slis_iff HL.out ht
  have HSOK := Lib.hid hsk
  clear hsk ht
  go_enter Tryz.func103, Tryz.ntmps103
  go_wp2
  go_loopw [4] (fun i wr => ∃ k : Nat, 1 ≤ k ∧ k ≤ 2 * n ∧ i = .int .i64 k ∧ NoClS n ts k ∧ Ext w wr) (fun i _ => 2 * n - (intOf i).toNat)
  case atStart => exact ⟨1, by omega, by omega, rfl, NoClS.one n ts, (by with_reducible (repeat (first | exact Ext.refl _ | apply Ext.drewN | apply Ext.drew | apply Ext.alloc | (refine Ext.set ?_ (by first | (simp; done) | (simp; omega) | omega) _) | (refine Ext.trans ?_ (by assumption)))))⟩
  case round =>
    obtain ⟨k, hk1, hk, rfl, hno, hx⟩ := hrel
    have HNO := Lib.hid hno
    clear hno
    by_cases hlt : k < 2 * n
    · have hki : (k : Int) < 2 * n := by omega
      go_wp2
      obtain ⟨wo, hwo⟩ : ∃ wo : World, wr = wo := ⟨_, rfl⟩
      subst hwo
      go_loopw [5] (fun i wq => ∃ q : Nat, q ≤ k ∧ i = .int .i64 q ∧ NoHiS n ts k q ∧ Ext w wq) (fun i _ => k - (intOf i).toNat)
      case atStart => exact ⟨0, Nat.zero_le _, rfl, NoHiS.zero n ts k, hx⟩
      case round =>
        obtain ⟨q, hq, rfl, hhit, hx2⟩ := hrel
        have HHIT := Lib.hid hhit
        clear hhit
        by_cases hlq : q < k
        · have hqi : (q : Int) < k := by omega
          have hq2 : q < 2 * n := by omega
          obtain ⟨x, hx0⟩ : ∃ x, sl n ts q = x := ⟨_, rfl⟩
          obtain ⟨y, hy0⟩ : ∃ y, sl n ts k = y := ⟨_, rfl⟩
          have HX := Lib.hid hx0
          have HY := Lib.hid hy0
          clear hx0 hy0
          go_wp2_with fail
          (with_reducible refine (l05Land_any A n c ts q hq2 (by omega) (HSOK.out q hq2) _ (hI.ext (by with_reducible (repeat (first | exact Ext.refl _ | apply Ext.drewN | apply Ext.drew | apply Ext.alloc | (refine Ext.set ?_ (by first | (simp; done) | (simp; omega) | omega) _) | (refine Ext.trans ?_ (by assumption))))))).mono ?_)
          rw [HX.out]
          rintro e w1 ⟨rfl, hx1⟩
          have hE1 : Ext w w1 := hx2.trans hx1
          clear hx1
          go_wp2_with fail
          (with_reducible refine (l05Land_any A n c ts k hlt (by omega) (HSOK.out k hlt) _ (hI.ext hE1)).mono ?_)
          rw [HY.out]
          rintro e w2 ⟨rfl, hx3⟩
          have hE2 : Ext w w2 := hE1.trans hx3
          clear hx3
          by_cases he : x = y
          · subst he
            have HF : Hid (scl ts = false) := scl_no HL.out hlt hlq (HX.out.trans HY.out.symm)
            go_wp2
            have HV : Hid (decide ((q : Int) < 0) = scl ts) := by show _ = _; rw [HF.out]; exact decide_eq_false (by omega)
            go_ret2
            exact ⟨_, _, rfl, HV, hE2⟩
          · have he2 : ¬ (x : Int) = y := by omega
            have HG : Hid (NoHiS n ts k (q + 1)) := HHIT.out.succ (by rw [HX.out, HY.out]; exact he)
            go_wp2
            go_roundw
            case rel => exact ⟨q + 1, by omega, by go_num, HG.out, hE2⟩
            case measure => simp [intOf]; omega
        · obtain rfl : q = k := by omega
          have HG : Hid (NoClS n ts (q + 1)) := HNO.out.succ HHIT.out
          go_wp2
          go_roundw
          case rel => exact ⟨q + 1, by omega, by omega, by go_num, HG.out, hx2⟩
          case measure => simp [intOf]; omega
    · obtain rfl : k = 2 * n := by omega
      have HF : Hid (scl ts = true) := scl_yes HL.out HNO.out
      go_wp2
      have HV : Hid (decide ((-1 : Int) < 0) = scl ts) := by show _ = _; rw [HF.out]; rfl
      go_ret2
      exact ⟨_, _, rfl, HV, hx⟩
theorem l05Ok_any (A : Option Addr) (n c : Nat) (ts : List (Int × Bool)) (w : World) (hI : Syn w A n ts) :
    Calls Tryz.prog 68 #[.slice A n c] w fun e w' => e = .returned (.bool (vsyn ts)) ∧ Ext w w' := by
  cases ht : slis ts
  · have HV : Hid (vsyn ts = false) := by show _ = _; simp [vsyn, ht]
    go_enter Tryz.func68, Tryz.ntmps68
    go_wp2_with fail
    (with_reducible refine (l05List_any A n c ts _ hI).mono ?_)
    rw [ht]
    rintro e w1 ⟨rfl, hx1⟩
    go_wp2
    go_ret
    exact ⟨ret_bool HV.out.symm, hx1⟩
  · have HV : Hid (vsyn ts = scl ts) := by show _ = _; simp [vsyn, ht]
    go_enter Tryz.func68, Tryz.ntmps68
    go_wp2_with fail
    (with_reducible refine (l05List_any A n c ts _ hI).mono ?_)
    rw [ht]
    rintro e w1 ⟨rfl, hx1⟩
    go_wp2_with fail
    (with_reducible refine (l05Clash_any A n c ts _ (hI.ext hx1) ht).mono ?_)
    rintro e w2 ⟨a, b, rfl, HA, hx2⟩
    have hE : Ext w w2 := hx1.trans hx2
    have HB : Hid (decide (a < 0) = vsyn ts) := HA.out.trans HV.out.symm
    go_wp2
    go_ret
    exact ⟨ret_bool HB.out, hE⟩
theorem l05Ok_is (A : Option Addr) (n c : Nat) (ts : List (Int × Bool)) (v : Bool) (hv : vsyn ts = v) (w : World) (hI : Syn w A n ts) :
    Calls Tryz.prog 68 #[.slice A n c] w fun e w' => e = .returned (.bool v) ∧ Ext w w' := by
  subst hv
  exact l05Ok_any A n c ts w hI
end Go.Proofs.YtbihbhdaenhdoaaGreat
