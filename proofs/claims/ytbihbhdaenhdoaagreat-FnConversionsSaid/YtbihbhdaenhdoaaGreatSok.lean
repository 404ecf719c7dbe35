/- Whether beats are a synchronous pattern: the plain words, and the contracts of both sides' functions. No condition but the stated bounds. (tools/gsok.py) -/
import Derived.Test.YtbihbhdaenhdoaaGreatSyn
import Derived.Test.YtbihbhdaenhdoaaGreatNum
namespace Go.Proofs.YtbihbhdaenhdoaaGreat
set_option linter.unusedVariables false
set_option linter.unusedSimpArgs false
open Go.ChangeShapes Go.WideShapes Go.ChangeAt Go.RowKit Go.Joins Go.Deep

/-- A throw is right. -/
def sok (v : Int) (p : Bool) : Bool := btw v 0 14 && decide (v % 2 = 0) && (decide (0 < v) || !p)
/-- All throws are right. -/
def alls (ts : List (Int × Bool)) : Bool := decide (∀ i, i < ts.length → sok (tv ts i) (tp ts i) = true)
def AllS (ts : List (Int × Bool)) (k : Nat) : Prop := ∀ i, i < k → sok (tv ts i) (tp ts i) = true
theorem AllS.zero (ts : List (Int × Bool)) : AllS ts 0 := fun i h => absurd h (by omega)
theorem AllS.succ {ts : List (Int × Bool)} {k : Nat} (h : AllS ts (2 * k)) (h0 : sok (tv ts (2 * k)) (tp ts (2 * k)) = true) (h1 : sok (tv ts (2 * k + 1)) (tp ts (2 * k + 1)) = true) : AllS ts (2 * (k + 1)) := fun i hi => by
  by_cases e : i = 2 * k
  · rw [e]; exact h0
  · by_cases e' : i = 2 * k + 1
    · rw [e']; exact h1
    · exact h i (by omega)
theorem alls_no {ts : List (Int × Bool)} {i : Nat} (hi : i < ts.length) (h : sok (tv ts i) (tp ts i) = false) : alls ts = false := by
  unfold alls
  rw [decide_eq_false_iff_not]
  intro h'
  rw [h' i hi] at h
  cases h
theorem alls_yes {ts : List (Int × Bool)} (h : AllS ts ts.length) : alls ts = true := decide_eq_true h
/-- A list of beats. -/
def slis (ts : List (Int × Bool)) : Bool := alls ts && btw ((ts.length / 2 : Nat) : Int) 1 6
/-- Where a throw lands, as a number. -/
def sl (n : Nat) (ts : List (Int × Bool)) (k : Nat) : Nat := (k / 2 + (tv ts k).toNat / 2) % n * 2 + (if tp ts k then 1 - k % 2 else k % 2)
theorem sl_lt {n : Nat} (hn : 0 < n) (ts : List (Int × Bool)) (k : Nat) : sl n ts k < 2 * n := by
  have := Nat.mod_lt (k / 2 + (tv ts k).toNat / 2) hn
  unfold sl
  split <;> omega
def NoClS (n : Nat) (ts : List (Int × Bool)) (k : Nat) : Prop := ∀ j, j < k → ∀ i, i < j → sl n ts i ≠ sl n ts j
def NoHiS (n : Nat) (ts : List (Int × Bool)) (k i : Nat) : Prop := ∀ j, j < i → sl n ts j ≠ sl n ts k
instance (n : Nat) (ts : List (Int × Bool)) (k : Nat) : Decidable (NoClS n ts k) := by unfold NoClS; infer_instance
/-- No two throws land in one hand at one time. -/
def scl (ts : List (Int × Bool)) : Bool := decide (NoClS (ts.length / 2) ts ts.length)
/-- The beats are a pattern. -/
def vsyn (ts : List (Int × Bool)) : Bool := slis ts && scl ts
theorem NoClS.zero (n : Nat) (ts : List (Int × Bool)) : NoClS n ts 0 := fun j h => absurd h (by omega)
theorem NoClS.one (n : Nat) (ts : List (Int × Bool)) : NoClS n ts 1 := fun j h i hi => absurd hi (by omega)
theorem NoHiS.zero (n : Nat) (ts : List (Int × Bool)) (k : Nat) : NoHiS n ts k 0 := fun j h => absurd h (by omega)
theorem NoClS.succ {n : Nat} {ts : List (Int × Bool)} {k : Nat} (h : NoClS n ts k) (hk : NoHiS n ts k k) : NoClS n ts (k + 1) := fun j hj i hi => by
  by_cases e : j = k
  · subst e; exact hk i hi
  · exact h j (by omega) i hi
theorem NoHiS.succ {n : Nat} {ts : List (Int × Bool)} {k i : Nat} (h : NoHiS n ts k i) (hk : ¬ sl n ts i = sl n ts k) : NoHiS n ts k (i + 1) := fun j hj => by
  by_cases e : j = i
  · subst e; exact hk
  · exact h j (by omega)
theorem scl_no {n : Nat} {ts : List (Int × Bool)} {k i : Nat} (hl : ts.length = 2 * n) (hk : k < 2 * n) (hi : i < k) (h : sl n ts i = sl n ts k) : scl ts = false := by
  have e : ts.length / 2 = n := by omega
  unfold scl
  rw [e, decide_eq_false_iff_not, hl]
  exact fun h' => h' k hk i hi h
theorem scl_yes {n : Nat} {ts : List (Int × Bool)} (hl : ts.length = 2 * n) (h : NoClS n ts (2 * n)) : scl ts = true := by
  have e : ts.length / 2 = n := by omega
  unfold scl
  rw [e, decide_eq_true_iff, hl]
  exact h
theorem slis_iff {n : Nat} {ts : List (Int × Bool)} (hl : ts.length = 2 * n) (h : slis ts = true) : 1 ≤ n ∧ n ≤ 6 ∧ ∀ i, i < 2 * n → sok (tv ts i) (tp ts i) = true := by
  have e : ts.length / 2 = n := by omega
  unfold slis at h
  rw [Bool.and_eq_true, e, btw_iff] at h
  refine ⟨by omega, by omega, fun i hi => ?_⟩
  have := h.1
  unfold alls at this
  rw [decide_eq_true_iff] at this
  exact this i (by omega)
theorem sok_bd {v : Int} {p : Bool} (h : sok v p = true) : 0 ≤ v ∧ v ≤ 14 ∧ v % 2 = 0 ∧ (v = 0 → p = false) := by
  unfold sok at h
  simp only [Bool.and_eq_true, Bool.or_eq_true, decide_eq_true_iff, btw_iff, Bool.not_eq_true'] at h
  exact ⟨h.1.1.1, h.1.1.2, h.1.2, fun e => h.2.resolve_left (by omega)⟩
theorem isSyncThrow_any (v : Int) (p : Bool) (w : World) :
    Calls Tryz.prog 64 #[.agg #[.int .i64 v, .bool p]] w fun e w' => e = .returned (.bool (sok v p)) ∧ Ext w w' := by
  cases hr : btw v 0 14
  · have HF : Hid (sok v p = false) := by show _ = _; simp [sok, hr]
    go_enter Tryz.func64, Tryz.ntmps64
    go_wp2_with (go_at_call 21; (with_reducible refine (between_is _ _ _ _ hr _).mono ?_); rintro e w' ⟨rfl, rfl⟩)
    go_ret
    exact ⟨ret_bool HF.out.symm, (by with_reducible (repeat (first | exact Ext.refl _ | apply Ext.drewN | apply Ext.drew | apply Ext.alloc | (refine Ext.set ?_ (by first | (simp; done) | (simp; omega) | omega) _) | (refine Ext.trans ?_ (by assumption)))))⟩
  · have hb := btw_iff.1 hr
    obtain ⟨r, hr2⟩ : ∃ r, v.tmod 2 = r := ⟨_, rfl⟩
    have hre : v % 2 = r := by rw [← hr2, Int.tmod_eq_emod_of_nonneg hb.1]
    have hrb : r = 0 ∨ r = 1 := by omega
    rcases hrb with rfl | rfl
    · by_cases hz : v = 0
      · subst hz
        cases p
        · have HF : Hid (sok 0 false = true) := by show _ = _; decide
          go_enter Tryz.func64, Tryz.ntmps64
          go_wp2_with (go_at_call 21; (with_reducible refine (between_is _ _ _ _ hr _).mono ?_); rintro e w' ⟨rfl, rfl⟩)
          go_ret
          exact ⟨ret_bool HF.out.symm, (by with_reducible (repeat (first | exact Ext.refl _ | apply Ext.drewN | apply Ext.drew | apply Ext.alloc | (refine Ext.set ?_ (by first | (simp; done) | (simp; omega) | omega) _) | (refine Ext.trans ?_ (by assumption)))))⟩
        · have HF : Hid (sok 0 true = false) := by show _ = _; decide
          go_enter Tryz.func64, Tryz.ntmps64
          go_wp2_with (go_at_call 21; (with_reducible refine (between_is _ _ _ _ hr _).mono ?_); rintro e w' ⟨rfl, rfl⟩)
          go_ret
          exact ⟨ret_bool HF.out.symm, (by with_reducible (repeat (first | exact Ext.refl _ | apply Ext.drewN | apply Ext.drew | apply Ext.alloc | (refine Ext.set ?_ (by first | (simp; done) | (simp; omega) | omega) _) | (refine Ext.trans ?_ (by assumption)))))⟩
      · have hpos : 0 < v := by omega
        have HF : Hid (sok v p = true) := by show _ = _; simp [sok, hr, hre, hpos]
        go_enter Tryz.func64, Tryz.ntmps64
        go_wp2_with (go_at_call 21; (with_reducible refine (between_is _ _ _ _ hr _).mono ?_); rintro e w' ⟨rfl, rfl⟩)
        go_ret
        exact ⟨ret_bool HF.out.symm, (by with_reducible (repeat (first | exact Ext.refl _ | apply Ext.drewN | apply Ext.drew | apply Ext.alloc | (refine Ext.set ?_ (by first | (simp; done) | (simp; omega) | omega) _) | (refine Ext.trans ?_ (by assumption)))))⟩
    · have HF : Hid (sok v p = false) := by show _ = _; simp [sok, hre]
      go_enter Tryz.func64, Tryz.ntmps64
      go_wp2_with (go_at_call 21; (with_reducible refine (between_is _ _ _ _ hr _).mono ?_); rintro e w' ⟨rfl, rfl⟩)
      go_ret
      exact ⟨ret_bool HF.out.symm, (by with_reducible (repeat (first | exact Ext.refl _ | apply Ext.drewN | apply Ext.drew | apply Ext.alloc | (refine Ext.set ?_ (by first | (simp; done) | (simp; omega) | omega) _) | (refine Ext.trans ?_ (by assumption)))))⟩
theorem isSyncThrow_is (v : Int) (p b : Bool) (h : sok v p = b) (w : World) :
    Calls Tryz.prog 64 #[.agg #[.int .i64 v, .bool p]] w fun e w' => e = .returned (.bool b) ∧ Ext w w' := by
  subst h
  exact isSyncThrow_any v p w
theorem l05Throw_any (v : Int) (p : Bool) (w : World) :
    Calls Tryz.prog 121 #[.agg #[.int .i64 v, .bool p]] w fun e w' => e = .returned (.bool (sok v p)) ∧ Ext w w' := by
  cases hr : btw v 0 14
  · have HF : Hid (sok v p = false) := by show _ = _; simp [sok, hr]
    go_enter Tryz.func121, Tryz.ntmps121
    go_wp2_with (go_at_call 29; (with_reducible refine (l00In_is _ _ _ _ hr _).mono ?_); rintro e w' ⟨rfl, rfl⟩)
    go_ret
    exact ⟨ret_bool HF.out.symm, (by with_reducible (repeat (first | exact Ext.refl _ | apply Ext.drewN | apply Ext.drew | apply Ext.alloc | (refine Ext.set ?_ (by first | (simp; done) | (simp; omega) | omega) _) | (refine Ext.trans ?_ (by assumption)))))⟩
  · have hb := btw_iff.1 hr
    obtain ⟨r, hr2⟩ : ∃ r, v.tmod 2 = r := ⟨_, rfl⟩
    have hre : v % 2 = r := by rw [← hr2, Int.tmod_eq_emod_of_nonneg hb.1]
    have hrb : r = 0 ∨ r = 1 := by omega
    rcases hrb with rfl | rfl
    · by_cases hz : v = 0
      · subst hz
        cases p
        · have HF : Hid (sok 0 false = true) := by show _ = _; decide
          go_enter Tryz.func121, Tryz.ntmps121
          go_wp2_with (go_at_call 29; (with_reducible refine (l00In_is _ _ _ _ hr _).mono ?_); rintro e w' ⟨rfl, rfl⟩)
          go_ret
          exact ⟨ret_bool HF.out.symm, (by with_reducible (repeat (first | exact Ext.refl _ | apply Ext.drewN | apply Ext.drew | apply Ext.alloc | (refine Ext.set ?_ (by first | (simp; done) | (simp; omega) | omega) _) | (refine Ext.trans ?_ (by assumption)))))⟩
        · have HF : Hid (sok 0 true = false) := by show _ = _; decide
          go_enter Tryz.func121, Tryz.ntmps121
          go_wp2_with (go_at_call 29; (with_reducible refine (l00In_is _ _ _ _ hr _).mono ?_); rintro e w' ⟨rfl, rfl⟩)
          go_ret
          exact ⟨ret_bool HF.out.symm, (by with_reducible (repeat (first | exact Ext.refl _ | apply Ext.drewN | apply Ext.drew | apply Ext.alloc | (refine Ext.set ?_ (by first | (simp; done) | (simp; omega) | omega) _) | (refine Ext.trans ?_ (by assumption)))))⟩
      · have hpos : 0 < v := by omega
        have HF : Hid (sok v p = true) := by show _ = _; simp [sok, hr, hre, hpos]
        go_enter Tryz.func121, Tryz.ntmps121
        go_wp2_with (go_at_call 29; (with_reducible refine (l00In_is _ _ _ _ hr _).mono ?_); rintro e w' ⟨rfl, rfl⟩)
        go_ret
        exact ⟨ret_bool HF.out.symm, (by with_reducible (repeat (first | exact Ext.refl _ | apply Ext.drewN | apply Ext.drew | apply Ext.alloc | (refine Ext.set ?_ (by first | (simp; done) | (simp; omega) | omega) _) | (refine Ext.trans ?_ (by assumption)))))⟩
    · have HF : Hid (sok v p = false) := by show _ = _; simp [sok, hre]
      go_enter Tryz.func121, Tryz.ntmps121
      go_wp2_with (go_at_call 29; (with_reducible refine (l00In_is _ _ _ _ hr _).mono ?_); rintro e w' ⟨rfl, rfl⟩)
      go_ret
      exact ⟨ret_bool HF.out.symm, (by with_reducible (repeat (first | exact Ext.refl _ | apply Ext.drewN | apply Ext.drew | apply Ext.alloc | (refine Ext.set ?_ (by first | (simp; done) | (simp; omega) | omega) _) | (refine Ext.trans ?_ (by assumption)))))⟩
theorem l05Throw_is (v : Int) (p b : Bool) (h : sok v p = b) (w : World) :
    Calls Tryz.prog 121 #[.agg #[.int .i64 v, .bool p]] w fun e w' => e = .returned (.bool b) ∧ Ext w w' := by
  subst h
  exact l05Throw_any v p w
set_option maxHeartbeats 2000000 in
theorem areSyncBeats_any (A : Option Addr) (n c : Nat) (ts : List (Int × Bool)) (w : World) (hI : Syn w A n ts) :
    Calls Tryz.prog 118 #[.slice A n c] w fun e w' => e = .returned (.bool (slis ts)) ∧ Ext w w' := by
  have hs := hI.small
  have HL := Lib.hid hI.len
  go_enter Tryz.func118, Tryz.ntmps118
  go_wp2
  go_loopw [7] (fun i wr => ∃ k : Nat, k ≤ n ∧ i = .int .i64 k ∧ AllS ts (2 * k) ∧ Ext w wr) (fun i _ => n - (intOf i).toNat)
  case atStart => exact ⟨0, Nat.zero_le _, rfl, AllS.zero ts, Ext.refl _⟩
  case round =>
    obtain ⟨k, hk, rfl, hall, hx⟩ := hrel
    have HA := Lib.hid hall
    clear hall
    by_cases hlt : k < n
    · obtain ⟨b, off, rfl, hb, hcell⟩ := (hI.ext hx).at_ (by omega)
      obtain ⟨c0, c1, c2, c3⟩ := hcell k hlt
      have hki : (k : Int) < n := by omega
      have hkl : 2 * k < ts.length := by rw [HL.out]; omega
      have hkl2 : 2 * k + 1 < ts.length := by rw [HL.out]; omega
      clear hcell
      obtain ⟨v, hv⟩ : ∃ v, tv ts (2 * k) = v := ⟨_, rfl⟩
      obtain ⟨p, hp⟩ : ∃ p, tp ts (2 * k) = p := ⟨_, rfl⟩
      obtain ⟨u, hu⟩ : ∃ u, tv ts (2 * k + 1) = u := ⟨_, rfl⟩
      obtain ⟨q, hq⟩ : ∃ q, tp ts (2 * k + 1) = q := ⟨_, rfl⟩
      have HNO : Hid (sok v p = false → slis ts = false) := fun h => by unfold slis; rw [alls_no hkl (by rw [hv, hp]; exact h)]; rfl
      have HNO2 : Hid (sok u q = false → slis ts = false) := fun h => by unfold slis; rw [alls_no hkl2 (by rw [hu, hq]; exact h)]; rfl
      have HYES : Hid (sok v p = true → sok u q = true → AllS ts (2 * (k + 1))) := fun h h2 => HA.out.succ (by rw [hv, hp]; exact h) (by rw [hu, hq]; exact h2)
      rw [hv] at c0
      rw [hp] at c1
      rw [hu] at c2
      rw [hq] at c3
      clear hv hp hu hq hkl hkl2
      obtain ⟨x1, h1⟩ : ∃ x1, sok v p = x1 := ⟨_, rfl⟩
      obtain ⟨x2, h2⟩ : ∃ x2, sok u q = x2 := ⟨_, rfl⟩
      rw [h1] at HNO HYES
      rw [h2] at HNO2 HYES
      have H1 := Lib.hid h1
      have H2 := Lib.hid h2
      clear h1 h2
      cases x1
      · have HF : Hid (slis ts = false) := HNO.out rfl
        go_wp2_with fail
        (with_reducible refine (isSyncThrow_is v p _ H1.out _).mono ?_)
        rintro e w1 ⟨rfl, hx1⟩
        have hE1 : Ext w w1 := Ext.trans (by with_reducible (repeat (first | exact Ext.refl _ | apply Ext.drewN | apply Ext.drew | apply Ext.alloc | (refine Ext.set ?_ (by first | (simp; done) | (simp; omega) | omega) _) | (refine Ext.trans ?_ (by assumption))))) hx1
        go_wp2
        go_ret
        exact ⟨ret_bool HF.out.symm, hE1⟩
      · go_wp2_with fail
        (with_reducible refine (isSyncThrow_is v p _ H1.out _).mono ?_)
        rintro e w1 ⟨rfl, hx1⟩
        have hz1 := hx1.size
        (try simp [World.setCell] at hz1)
        have d2 := hx1.cells.1 b (off + k * 4 + 2) (by first | (simp; done) | (simp; omega) | omega)
        have d3 := hx1.cells.1 b (off + k * 4 + 3) (by first | (simp; done) | (simp; omega) | omega)
        have q10 : wr.heap.size < w1.heap.size := by omega
        have k10 : ∀ o, w1.cell? ⟨wr.heap.size, o, none⟩ = _ := fun o => hx1.cells.1 _ o (by first | (simp [World.setCell]; done) | (simp [World.setCell]; omega) | omega)
        have hE1 : Ext w w1 := Ext.trans (by with_reducible (repeat (first | exact Ext.refl _ | apply Ext.drewN | apply Ext.drew | apply Ext.alloc | (refine Ext.set ?_ (by first | (simp; done) | (simp; omega) | omega) _) | (refine Ext.trans ?_ (by assumption))))) hx1
        have hb1 : b < w1.heap.size := by omega
        clear hx1
        cases x2
        · have HF : Hid (slis ts = false) := HNO2.out rfl
          go_wp2_with fail
          (with_reducible refine (isSyncThrow_is u q _ H2.out _).mono ?_)
          rintro e w2 ⟨rfl, hx2⟩
          have hE2 : Ext w w2 := hE1.trans hx2
          go_wp2
          go_ret
          exact ⟨ret_bool HF.out.symm, hE2⟩
        · have HG := Lib.hid (HYES.out (by trivial) (by trivial))
          go_wp2_with fail
          (with_reducible refine (isSyncThrow_is u q _ H2.out _).mono ?_)
          rintro e w2 ⟨rfl, hx2⟩
          have hE2 : Ext w w2 := hE1.trans hx2
          go_wp2
          go_roundw
          case rel => exact ⟨k + 1, by omega, by go_num, HG.out, hE2⟩
          case measure => simp [intOf]; omega
    · obtain rfl : k = n := by omega
      have hy : alls ts = true := alls_yes (by rw [HL.out]; exact HA.out)
      have hq : ts.length / 2 = k := by rw [HL.out]; omega
      cases hr : btw (k : Int) 1 6
      · have HF : Hid (slis ts = false) := by show _ = _; simp [slis, hq, hr]
        clear hy hq
        go_wp2_with (go_at_call 21; (with_reducible refine (between_is _ _ _ _ hr _).mono ?_); rintro e w' ⟨rfl, rfl⟩)
        go_ret
        exact ⟨ret_bool HF.out.symm, (by with_reducible (repeat (first | exact Ext.refl _ | apply Ext.drewN | apply Ext.drew | apply Ext.alloc | (refine Ext.set ?_ (by first | (simp; done) | (simp; omega) | omega) _) | (refine Ext.trans ?_ (by assumption)))))⟩
      · have HF : Hid (slis ts = true) := by show _ = _; simp [slis, hy, hq, hr]
        clear hy hq
        go_wp2_with (go_at_call 21; (with_reducible refine (between_is _ _ _ _ hr _).mono ?_); rintro e w' ⟨rfl, rfl⟩)
        go_ret
        exact ⟨ret_bool HF.out.symm, (by with_reducible (repeat (first | exact Ext.refl _ | apply Ext.drewN | apply Ext.drew | apply Ext.alloc | (refine Ext.set ?_ (by first | (simp; done) | (simp; omega) | omega) _) | (refine Ext.trans ?_ (by assumption)))))⟩
set_option maxHeartbeats 2000000 in
theorem l05List_any (A : Option Addr) (n c : Nat) (ts : List (Int × Bool)) (w : World) (hI : Syn w A n ts) :
    Calls Tryz.prog 102 #[.slice A n c] w fun e w' => e = .returned (.bool (slis ts)) ∧ Ext w w' := by
  have hs := hI.small
  have HL := Lib.hid hI.len
  go_enter Tryz.func102, Tryz.ntmps102
  go_wp2
  go_loopw [3] (fun i wr => ∃ k : Nat, k ≤ n ∧ i = .int .i64 k ∧ AllS ts (2 * k) ∧ Ext w wr) (fun i _ => n - (intOf i).toNat)
  case atStart => exact ⟨0, Nat.zero_le _, rfl, AllS.zero ts, Ext.refl _⟩
  case round =>
    obtain ⟨k, hk, rfl, hall, hx⟩ := hrel
    have HA := Lib.hid hall
    clear hall
    by_cases hlt : k < n
    · obtain ⟨b, off, rfl, hb, hcell⟩ := (hI.ext hx).at_ (by omega)
      obtain ⟨c0, c1, c2, c3⟩ := hcell k hlt
      have hki : (k : Int) < n := by omega
      have hkl : 2 * k < ts.length := by rw [HL.out]; omega
      have hkl2 : 2 * k + 1 < ts.length := by rw [HL.out]; omega
      clear hcell
      obtain ⟨v, hv⟩ : ∃ v, tv ts (2 * k) = v := ⟨_, rfl⟩
      obtain ⟨p, hp⟩ : ∃ p, tp ts (2 * k) = p := ⟨_, rfl⟩
      obtain ⟨u, hu⟩ : ∃ u, tv ts (2 * k + 1) = u := ⟨_, rfl⟩
      obtain ⟨q, hq⟩ : ∃ q, tp ts (2 * k + 1) = q := ⟨_, rfl⟩
      have HNO : Hid (sok v p = false → slis ts = false) := fun h => by unfold slis; rw [alls_no hkl (by rw [hv, hp]; exact h)]; rfl
      have HNO2 : Hid (sok u q = false → slis ts = false) := fun h => by unfold slis; rw [alls_no hkl2 (by rw [hu, hq]; exact h)]; rfl
      have HYES : Hid (sok v p = true → sok u q = true → AllS ts (2 * (k + 1))) := fun h h2 => HA.out.succ (by rw [hv, hp]; exact h) (by rw [hu, hq]; exact h2)
      rw [hv] at c0
      rw [hp] at c1
      rw [hu] at c2
      rw [hq] at c3
      clear hv hp hu hq hkl hkl2
      obtain ⟨x1, h1⟩ : ∃ x1, sok v p = x1 := ⟨_, rfl⟩
      obtain ⟨x2, h2⟩ : ∃ x2, sok u q = x2 := ⟨_, rfl⟩
      rw [h1] at HNO HYES
      rw [h2] at HNO2 HYES
      have H1 := Lib.hid h1
      have H2 := Lib.hid h2
      clear h1 h2
      cases x1
      · have HF : Hid (slis ts = false) := HNO.out rfl
        go_wp2_with fail
        (with_reducible refine (l05Throw_is v p _ H1.out _).mono ?_)
        rintro e w1 ⟨rfl, hx1⟩
        have hE1 : Ext w w1 := Ext.trans (by with_reducible (repeat (first | exact Ext.refl _ | apply Ext.drewN | apply Ext.drew | apply Ext.alloc | (refine Ext.set ?_ (by first | (simp; done) | (simp; omega) | omega) _) | (refine Ext.trans ?_ (by assumption))))) hx1
        go_wp2
        go_ret
        exact ⟨ret_bool HF.out.symm, hE1⟩
      · go_wp2_with fail
        (with_reducible refine (l05Throw_is v p _ H1.out _).mono ?_)
        rintro e w1 ⟨rfl, hx1⟩
        have hz1 := hx1.size
        (try simp [World.setCell] at hz1)
        have d2 := hx1.cells.1 b (off + k * 4 + 2) (by first | (simp; done) | (simp; omega) | omega)
        have d3 := hx1.cells.1 b (off + k * 4 + 3) (by first | (simp; done) | (simp; omega) | omega)
        have hE1 : Ext w w1 := Ext.trans (by with_reducible (repeat (first | exact Ext.refl _ | apply Ext.drewN | apply Ext.drew | apply Ext.alloc | (refine Ext.set ?_ (by first | (simp; done) | (simp; omega) | omega) _) | (refine Ext.trans ?_ (by assumption))))) hx1
        have hb1 : b < w1.heap.size := by omega
        clear hx1
        cases x2
        · have HF : Hid (slis ts = false) := HNO2.out rfl
          go_wp2_with fail
          (with_reducible refine (l05Throw_is u q _ H2.out _).mono ?_)
          rintro e w2 ⟨rfl, hx2⟩
          have hE2 : Ext w w2 := hE1.trans hx2
          go_wp2
          go_ret
          exact ⟨ret_bool HF.out.symm, hE2⟩
        · have HG := Lib.hid (HYES.out (by trivial) (by trivial))
          go_wp2_with fail
          (with_reducible refine (l05Throw_is u q _ H2.out _).mono ?_)
          rintro e w2 ⟨rfl, hx2⟩
          have hE2 : Ext w w2 := hE1.trans hx2
          go_wp2
          go_roundw
          case rel => exact ⟨k + 1, by omega, by go_num, HG.out, hE2⟩
          case measure => simp [intOf]; omega
    · obtain rfl : k = n := by omega
      have hy : alls ts = true := alls_yes (by rw [HL.out]; exact HA.out)
      have hq : ts.length / 2 = k := by rw [HL.out]; omega
      cases hr : btw (k : Int) 1 6
      · have HF : Hid (slis ts = false) := by show _ = _; simp [slis, hq, hr]
        clear hy hq
        go_wp2_with (go_at_call 29; (with_reducible refine (l00In_is _ _ _ _ hr _).mono ?_); rintro e w' ⟨rfl, rfl⟩)
        go_ret
        exact ⟨ret_bool HF.out.symm, (by with_reducible (repeat (first | exact Ext.refl _ | apply Ext.drewN | apply Ext.drew | apply Ext.alloc | (refine Ext.set ?_ (by first | (simp; done) | (simp; omega) | omega) _) | (refine Ext.trans ?_ (by assumption)))))⟩
      · have HF : Hid (slis ts = true) := by show _ = _; simp [slis, hy, hq, hr]
        clear hy hq
        go_wp2_with (go_at_call 29; (with_reducible refine (l00In_is _ _ _ _ hr _).mono ?_); rintro e w' ⟨rfl, rfl⟩)
        go_ret
        exact ⟨ret_bool HF.out.symm, (by with_reducible (repeat (first | exact Ext.refl _ | apply Ext.drewN | apply Ext.drew | apply Ext.alloc | (refine Ext.set ?_ (by first | (simp; done) | (simp; omega) | omega) _) | (refine Ext.trans ?_ (by assumption)))))⟩
theorem numbered_any (A : Option Addr) (n c : Nat) (ts : List (Int × Bool)) (k : Nat) (hk : k < 2 * n) (hn : n ≤ 1000000) (w : World) (hI : Syn w A n ts) :
    Calls Tryz.prog 94 #[.slice A n c, .int .i64 k] w fun e w' => e = .returned (.agg #[.int .i64 (tv ts k), .bool (tp ts k)]) ∧ Ext w w' := by
  obtain ⟨b, off, rfl, hb, hcell⟩ := hI.at_ (by omega)
  obtain ⟨j, hj⟩ : ∃ j, k / 2 = j := ⟨_, rfl⟩
  have hjn : j < n := by omega
  have hji : (j : Int) < n := by omega
  obtain ⟨c0, c1, c2, c3⟩ := hcell j hjn
  have hq1 : Int.tdiv (k : Int) 2 = j := by rw [← hj]; rfl
  have hq2 : IntKind.i64.wrap (j : Int) = j := IntWalk.i64_in _ (by omega)
  have hq3 : IntKind.i64.wrap (Int.tdiv (k : Int) 2) = j := by rw [hq1]; exact hq2
  clear hcell hI
  rcases Nat.mod_two_eq_zero_or_one k with h | h
  · have e : 2 * j = k := by omega
    have hr1 : Int.tmod (k : Int) 2 = 0 := by have : Int.tmod (k : Int) 2 = ((k % 2 : Nat) : Int) := rfl; rw [this, h]; rfl
    rw [e] at c0 c1
    clear hj h e
    generalize tv ts k = v at *
    generalize tp ts k = p at *
    go_enter Tryz.func94, Tryz.ntmps94
    go_wp2
    exact bodyPost_ret (v := .agg #[.int .i64 v, .bool p]) (by simp [results, Tryz.results94, go_sem, *]) rfl ⟨rfl, (by with_reducible (repeat (first | exact Ext.refl _ | apply Ext.drewN | apply Ext.drew | apply Ext.alloc | (refine Ext.set ?_ (by first | (simp; done) | (simp; omega) | omega) _) | (refine Ext.trans ?_ (by assumption)))))⟩
  · have e : 2 * j + 1 = k := by omega
    have hr1 : Int.tmod (k : Int) 2 = 1 := by have : Int.tmod (k : Int) 2 = ((k % 2 : Nat) : Int) := rfl; rw [this, h]; rfl
    rw [e] at c2 c3
    clear hj h e
    generalize tv ts k = v at *
    generalize tp ts k = p at *
    go_enter Tryz.func94, Tryz.ntmps94
    go_wp2
    exact bodyPost_ret (v := .agg #[.int .i64 v, .bool p]) (by simp [results, Tryz.results94, go_sem, *]) rfl ⟨rfl, (by with_reducible (repeat (first | exact Ext.refl _ | apply Ext.drewN | apply Ext.drew | apply Ext.alloc | (refine Ext.set ?_ (by first | (simp; done) | (simp; omega) | omega) _) | (refine Ext.trans ?_ (by assumption)))))⟩
theorem l05At_any (A : Option Addr) (n c : Nat) (ts : List (Int × Bool)) (k : Nat) (hk : k < 2 * n) (hn : n ≤ 1000000) (w : World) (hI : Syn w A n ts) :
    Calls Tryz.prog 124 #[.slice A n c, .int .i64 k] w fun e w' => e = .returned (.agg #[.int .i64 (tv ts k), .bool (tp ts k)]) ∧ Ext w w' := by
  obtain ⟨b, off, rfl, hb, hcell⟩ := hI.at_ (by omega)
  obtain ⟨j, hj⟩ : ∃ j, k / 2 = j := ⟨_, rfl⟩
  have hjn : j < n := by omega
  have hji : (j : Int) < n := by omega
  obtain ⟨c0, c1, c2, c3⟩ := hcell j hjn
  have hq1 : Int.tdiv (k : Int) 2 = j := by rw [← hj]; rfl
  have hq2 : IntKind.i64.wrap (j : Int) = j := IntWalk.i64_in _ (by omega)
  have hq3 : IntKind.i64.wrap (Int.tdiv (k : Int) 2) = j := by rw [hq1]; exact hq2
  clear hcell hI
  rcases Nat.mod_two_eq_zero_or_one k with h | h
  · have e : 2 * j = k := by omega
    have hr1 : Int.tmod (k : Int) 2 = 0 := by have : Int.tmod (k : Int) 2 = ((k % 2 : Nat) : Int) := rfl; rw [this, h]; rfl
    rw [e] at c0 c1
    clear hj h e
    generalize tv ts k = v at *
    generalize tp ts k = p at *
    go_enter Tryz.func124, Tryz.ntmps124
    go_wp2
    exact bodyPost_ret (v := .agg #[.int .i64 v, .bool p]) (by simp [results, Tryz.results124, go_sem, *]) rfl ⟨rfl, (by with_reducible (repeat (first | exact Ext.refl _ | apply Ext.drewN | apply Ext.drew | apply Ext.alloc | (refine Ext.set ?_ (by first | (simp; done) | (simp; omega) | omega) _) | (refine Ext.trans ?_ (by assumption)))))⟩
  · have e : 2 * j + 1 = k := by omega
    have hr1 : Int.tmod (k : Int) 2 = 1 := by have : Int.tmod (k : Int) 2 = ((k % 2 : Nat) : Int) := rfl; rw [this, h]; rfl
    rw [e] at c2 c3
    clear hj h e
    generalize tv ts k = v at *
    generalize tp ts k = p at *
    go_enter Tryz.func124, Tryz.ntmps124
    go_wp2
    exact bodyPost_ret (v := .agg #[.int .i64 v, .bool p]) (by simp [results, Tryz.results124, go_sem, *]) rfl ⟨rfl, (by with_reducible (repeat (first | exact Ext.refl _ | apply Ext.drewN | apply Ext.drew | apply Ext.alloc | (refine Ext.set ?_ (by first | (simp; done) | (simp; omega) | omega) _) | (refine Ext.trans ?_ (by assumption)))))⟩
set_option maxHeartbeats 1000000 in
theorem syncLanding_any (A : Option Addr) (n c : Nat) (ts : List (Int × Bool)) (k : Nat) (hk : k < 2 * n) (hn : n ≤ 6) (hs : sok (tv ts k) (tp ts k) = true) (w : World) (hI : Syn w A n ts) :
    Calls Tryz.prog 119 #[.slice A n c, .int .i64 k] w fun e w' => e = .returned (.int .i64 (sl n ts k)) ∧ Ext w w' := by
  obtain ⟨s0, s1, -, -⟩ := sok_bd hs
  have HS : Hid (sl n ts k = (k / 2 + (tv ts k).toNat / 2) % n * 2 + (if tp ts k then 1 - k % 2 else k % 2)) := rfl
  obtain ⟨v, hv⟩ : ∃ v, tv ts k = v := ⟨_, rfl⟩
  obtain ⟨p, hp⟩ : ∃ p, tp ts k = p := ⟨_, rfl⟩
  have HV := Lib.hid hv
  have HP := Lib.hid hp
  rw [hv] at s0 s1
  rw [hv, hp] at HS
  obtain ⟨z, hz⟩ : ∃ z, sl n ts k = z := ⟨_, rfl⟩
  rw [hz] at HS ⊢
  clear hv hp hz hs
  obtain ⟨u, rfl⟩ : ∃ u : Nat, v = u := ⟨v.toNat, by omega⟩
  obtain ⟨j, hj⟩ : ∃ j, k / 2 = j := ⟨_, rfl⟩
  obtain ⟨y, hy⟩ : ∃ y, u / 2 = y := ⟨_, rfl⟩
  obtain ⟨r, hr⟩ : ∃ r, (j + y) % n = r := ⟨_, rfl⟩
  obtain ⟨x, hx0⟩ : ∃ x, k % 2 = x := ⟨_, rfl⟩
  have hq1 : Int.tdiv (k : Int) 2 = j := by rw [← hj]; rfl
  have hq2 : IntKind.i64.wrap (j : Int) = j := IntWalk.i64_in _ (by omega)
  have hq3 : IntKind.i64.wrap (Int.tdiv (k : Int) 2) = j := by rw [hq1]; exact hq2
  have hu1 : Int.tdiv (u : Int) 2 = y := by rw [← hy]; rfl
  have hu2 : IntKind.i64.wrap (y : Int) = y := IntWalk.i64_in _ (by omega)
  have hu3 : IntKind.i64.wrap (Int.tdiv (u : Int) 2) = y := by rw [hu1]; exact hu2
  have hm1 : Int.tmod ((j : Int) + y) n = r := by rw [← hr]; rfl
  have hx1 : Int.tmod (k : Int) 2 = x := by rw [← hx0]; rfl
  have hrn : r < n := by rw [← hr]; exact Nat.mod_lt _ (by omega)
  have hxb : x ≤ 1 := by omega
  have hn0 : ¬ (n : Int) = 0 := by omega
  have hn1 : ¬ n = 0 := by omega
  have hz : Hid (z = r * 2 + (if p then 1 - x else x)) := by
    show _ = _
    rw [HS.out, Int.toNat_natCast, hj, hy, hr, hx0]
  have hj5 : j ≤ 5 := by omega
  have hy7 : y ≤ 7 := by omega
  have hr5 : r ≤ 5 := by omega
  clear hj hy hr hx0 HS
  go_enter Tryz.func119, Tryz.ntmps119
  go_wp2_with fail
  (with_reducible refine (numbered_any A n c ts k hk (by omega) _ (hI.ext (by with_reducible (repeat (first | exact Ext.refl _ | apply Ext.drewN | apply Ext.drew | apply Ext.alloc | (refine Ext.set ?_ (by first | (simp; done) | (simp; omega) | omega) _) | (refine Ext.trans ?_ (by assumption))))))).mono ?_)
  rw [HV.out, HP.out]
  rintro e w1 ⟨rfl, hx⟩
  have hE : Ext w w1 := Ext.trans (by with_reducible (repeat (first | exact Ext.refl _ | apply Ext.drewN | apply Ext.drew | apply Ext.alloc | (refine Ext.set ?_ (by first | (simp; done) | (simp; omega) | omega) _) | (refine Ext.trans ?_ (by assumption))))) hx
  clear hx
  cases p
  · have e : (z : Int) = r * 2 + x := by have := hz.out; simp at this; omega
    clear hz
    go_wp2
    go_ret
    exact ⟨by rw [e]; rfl, (by with_reducible (repeat (first | exact Ext.refl _ | apply Ext.drewN | apply Ext.drew | apply Ext.alloc | (refine Ext.set ?_ (by first | (simp; done) | (simp; omega) | omega) _) | (refine Ext.trans ?_ (by assumption)))))⟩
  · have e : (z : Int) = r * 2 + (1 - x) := by have := hz.out; simp at this; omega
    clear hz
    go_wp2
    go_ret
    exact ⟨by rw [e]; rfl, (by with_reducible (repeat (first | exact Ext.refl _ | apply Ext.drewN | apply Ext.drew | apply Ext.alloc | (refine Ext.set ?_ (by first | (simp; done) | (simp; omega) | omega) _) | (refine Ext.trans ?_ (by assumption)))))⟩
set_option maxHeartbeats 1000000 in
theorem l05Land_any (A : Option Addr) (n c : Nat) (ts : List (Int × Bool)) (k : Nat) (hk : k < 2 * n) (hn : n ≤ 6) (hs : sok (tv ts k) (tp ts k) = true) (w : World) (hI : Syn w A n ts) :
    Calls Tryz.prog 122 #[.slice A n c, .int .i64 k] w fun e w' => e = .returned (.int .i64 (sl n ts k)) ∧ Ext w w' := by
  obtain ⟨s0, s1, -, -⟩ := sok_bd hs
  have HS : Hid (sl n ts k = (k / 2 + (tv ts k).toNat / 2) % n * 2 + (if tp ts k then 1 - k % 2 else k % 2)) := rfl
  obtain ⟨v, hv⟩ : ∃ v, tv ts k = v := ⟨_, rfl⟩
  obtain ⟨p, hp⟩ : ∃ p, tp ts k = p := ⟨_, rfl⟩
  have HV := Lib.hid hv
  have HP := Lib.hid hp
  rw [hv] at s0 s1
  rw [hv, hp] at HS
  obtain ⟨z, hz⟩ : ∃ z, sl n ts k = z := ⟨_, rfl⟩
  rw [hz] at HS ⊢
  clear hv hp hz hs
  obtain ⟨u, rfl⟩ : ∃ u : Nat, v = u := ⟨v.toNat, by omega⟩
  obtain ⟨j, hj⟩ : ∃ j, k / 2 = j := ⟨_, rfl⟩
  obtain ⟨y, hy⟩ : ∃ y, u / 2 = y := ⟨_, rfl⟩
  obtain ⟨r, hr⟩ : ∃ r, (j + y) % n = r := ⟨_, rfl⟩
  obtain ⟨x, hx0⟩ : ∃ x, k % 2 = x := ⟨_, rfl⟩
  have hq1 : Int.tdiv (k : Int) 2 = j := by rw [← hj]; rfl
  have hq2 : IntKind.i64.wrap (j : Int) = j := IntWalk.i64_in _ (by omega)
  have hq3 : IntKind.i64.wrap (Int.tdiv (k : Int) 2) = j := by rw [hq1]; exact hq2
  have hu1 : Int.tdiv (u : Int) 2 = y := by rw [← hy]; rfl
  have hu2 : IntKind.i64.wrap (y : Int) = y := IntWalk.i64_in _ (by omega)
  have hu3 : IntKind.i64.wrap (Int.tdiv (u : Int) 2) = y := by rw [hu1]; exact hu2
  have hm1 : Int.tmod ((j : Int) + y) n = r := by rw [← hr]; rfl
  have hx1 : Int.tmod (k : Int) 2 = x := by rw [← hx0]; rfl
  have hrn : r < n := by rw [← hr]; exact Nat.mod_lt _ (by omega)
  have hxb : x ≤ 1 := by omega
  have hn0 : ¬ (n : Int) = 0 := by omega
  have hn1 : ¬ n = 0 := by omega
  have hz : Hid (z = r * 2 + (if p then 1 - x else x)) := by
    show _ = _
    rw [HS.out, Int.toNat_natCast, hj, hy, hr, hx0]
  have hj5 : j ≤ 5 := by omega
  have hy7 : y ≤ 7 := by omega
  have hr5 : r ≤ 5 := by omega
  clear hj hy hr hx0 HS
  go_enter Tryz.func122, Tryz.ntmps122
  go_wp2_with fail
  (with_reducible refine (l05At_any A n c ts k hk (by omega) _ (hI.ext (by with_reducible (repeat (first | exact Ext.refl _ | apply Ext.drewN | apply Ext.drew | apply Ext.alloc | (refine Ext.set ?_ (by first | (simp; done) | (simp; omega) | omega) _) | (refine Ext.trans ?_ (by assumption))))))).mono ?_)
  rw [HV.out, HP.out]
  rintro e w1 ⟨rfl, hx⟩
  have hE : Ext w w1 := Ext.trans (by with_reducible (repeat (first | exact Ext.refl _ | apply Ext.drewN | apply Ext.drew | apply Ext.alloc | (refine Ext.set ?_ (by first | (simp; done) | (simp; omega) | omega) _) | (refine Ext.trans ?_ (by assumption))))) hx
  clear hx
  cases p
  · have e : (z : Int) = r * 2 + x := by have := hz.out; simp at this; omega
    clear hz
    go_wp2
    go_ret
    exact ⟨by rw [e]; rfl, (by with_reducible (repeat (first | exact Ext.refl _ | apply Ext.drewN | apply Ext.drew | apply Ext.alloc | (refine Ext.set ?_ (by first | (simp; done) | (simp; omega) | omega) _) | (refine Ext.trans ?_ (by assumption)))))⟩
  · have e : (z : Int) = r * 2 + (1 - x) := by have := hz.out; simp at this; omega
    clear hz
    go_wp2
    go_ret
    exact ⟨by rw [e]; rfl, (by with_reducible (repeat (first | exact Ext.refl _ | apply Ext.drewN | apply Ext.drew | apply Ext.alloc | (refine Ext.set ?_ (by first | (simp; done) | (simp; omega) | omega) _) | (refine Ext.trans ?_ (by assumption)))))⟩
end Go.Proofs.YtbihbhdaenhdoaaGreat
