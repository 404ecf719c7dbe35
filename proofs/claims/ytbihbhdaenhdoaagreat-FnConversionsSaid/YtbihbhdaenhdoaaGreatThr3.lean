/- Whether a pattern of two jugglers is valid: the plain words, and the contracts of the form's functions. No condition but the stated bounds. -/
import Derived.Test.YtbihbhdaenhdoaaGreatThr
namespace Go.Proofs.YtbihbhdaenhdoaaGreat
set_option linter.unusedVariables false
set_option linter.unusedSimpArgs false
open Go.ChangeShapes Go.WideShapes Go.ChangeAt Go.RowKit Go.Joins Go.Deep

/-- A throw is right. -/
def pok (v : Int) (p : Bool) : Bool := btw v 0 15 && !(v == 0 && p)
/-- All throws are right. -/
def allp (ts : List (Int × Bool)) : Bool := decide (∀ i, i < ts.length → pok (tv ts i) (tp ts i) = true)
def AllP (ts : List (Int × Bool)) (k : Nat) : Prop := ∀ i, i < k → pok (tv ts i) (tp ts i) = true
theorem AllP.zero (ts : List (Int × Bool)) : AllP ts 0 := fun i h => absurd h (by omega)
theorem AllP.succ {ts : List (Int × Bool)} {k : Nat} (h : AllP ts k) (hk : pok (tv ts k) (tp ts k) = true) : AllP ts (k + 1) := fun i hi => by
  by_cases e : i = k
  · rw [e]; exact hk
  · exact h i (by omega)
theorem allp_no {ts : List (Int × Bool)} {i : Nat} (hi : i < ts.length) (h : pok (tv ts i) (tp ts i) = false) : allp ts = false := by
  unfold allp
  rw [decide_eq_false_iff_not]
  intro h'
  rw [h' i hi] at h
  cases h
theorem allp_yes {ts : List (Int × Bool)} (h : AllP ts ts.length) : allp ts = true := decide_eq_true h
/-- Both jugglers have equally many right throws. -/
def fpas (ts us : List (Int × Bool)) : Bool := btw (ts.length : Int) 1 8 && (ts.length == us.length) && allp ts && allp us
/-- Where a throw lands. -/
def lj (b : Bool) (n : Nat) (ts : List (Int × Bool)) (i : Nat) : Nat := (i + (tv ts i).toNat) % n * 2 + (if tp ts i == b then 1 else 0)
def ljs (b : Bool) (n : Nat) (ts : List (Int × Bool)) (k : Nat) : List Nat := (List.range k).map (lj b n ts)
/-- The pattern is valid. -/
def vpas (ts us : List (Int × Bool)) : Bool := fpas ts us && decide ((ljs true ts.length ts ts.length ++ ljs false ts.length us ts.length).Nodup)
theorem ljs_succ (b : Bool) (n : Nat) (ts : List (Int × Bool)) (k : Nat) : ljs b n ts (k + 1) = ljs b n ts k ++ [lj b n ts k] := by simp [ljs, List.range_succ]
theorem ljs_mem {b : Bool} {n : Nat} {ts : List (Int × Bool)} {i k : Nat} (h : i < k) : lj b n ts i ∈ ljs b n ts k := by
  simp only [ljs, List.mem_map, List.mem_range]
  exact ⟨i, h, rfl⟩
theorem lj_lt {b : Bool} {n : Nat} (hn : 0 < n) (ts : List (Int × Bool)) (i : Nat) : lj b n ts i < 2 * n := by
  have := Nat.mod_lt (i + (tv ts i).toNat) hn
  unfold lj
  split <;> omega
set_option maxHeartbeats 1000000 in
theorem arePasses_any (A : Option Addr) (n c : Nat) (ts : List (Int × Bool)) (w : World) (hI : Thr w A n ts) :
    Calls Tryz.prog 120 #[.slice A n c] w fun e w' => e = .returned (.bool (allp ts)) ∧ Ext w w' := by
  have hs := hI.small
  have HL := Lib.hid hI.len
  go_enter Tryz.func120, Tryz.ntmps120
  go_wp2
  go_loopw [7] (fun i wr => ∃ k : Nat, k ≤ n ∧ i = .int .i64 k ∧ AllP ts k ∧ Ext w wr) (fun i _ => n - (intOf i).toNat)
  case atStart => exact ⟨0, Nat.zero_le _, rfl, AllP.zero ts, Ext.refl _⟩
  case round =>
    obtain ⟨k, hk, rfl, hall, hx⟩ := hrel
    by_cases hlt : k < n
    · obtain ⟨b, off, rfl, hb, hcell⟩ := (hI.ext hx).at_ (by omega)
      obtain ⟨c0, c1⟩ := hcell k hlt
      have hki : (k : Int) < n := by omega
      clear hcell
      obtain ⟨v, hv⟩ : ∃ v, tv ts k = v := ⟨_, rfl⟩
      obtain ⟨p, hp⟩ : ∃ p, tp ts k = p := ⟨_, rfl⟩
      have HNO : Hid (pok v p = false → allp ts = false) := fun h => allp_no (by rw [HL.out]; exact hlt) (by rw [hv, hp]; exact h)
      have HYES : Hid (pok v p = true → AllP ts (k + 1)) := fun h => hall.succ (by rw [hv, hp]; exact h)
      rw [hv] at c0
      rw [hp] at c1
      clear hv hp hall
      cases hr : btw v 0 15
      · have HF : Hid (allp ts = false) := HNO.out (by simp [pok, hr])
        go_wp2_with (go_at_call 21; (with_reducible refine (between_is _ _ _ _ hr _).mono ?_); rintro e w' ⟨rfl, rfl⟩)
        go_ret
        exact ⟨ret_bool HF.out.symm, (by with_reducible (repeat (first | exact Ext.refl _ | apply Ext.drewN | apply Ext.drew | apply Ext.alloc | (refine Ext.set ?_ (by first | (simp; done) | (simp; omega) | omega) _) | (refine Ext.trans ?_ (by assumption)))))⟩
      · by_cases hz : v = 0
        · subst hz
          cases p
          · have HG := Lib.hid (HYES.out (by simp [pok, hr]))
            go_wp2_with (go_at_call 21; (with_reducible refine (between_is _ _ _ _ hr _).mono ?_); rintro e w' ⟨rfl, rfl⟩)
            go_roundw
            case rel => exact ⟨k + 1, by omega, by go_num, HG.out, (by with_reducible (repeat (first | exact Ext.refl _ | apply Ext.drewN | apply Ext.drew | apply Ext.alloc | (refine Ext.set ?_ (by first | (simp; done) | (simp; omega) | omega) _) | (refine Ext.trans ?_ (by assumption)))))⟩
            case measure => simp [intOf]; omega
          · have HF : Hid (allp ts = false) := HNO.out (by simp [pok])
            go_wp2_with (go_at_call 21; (with_reducible refine (between_is _ _ _ _ hr _).mono ?_); rintro e w' ⟨rfl, rfl⟩)
            go_ret
            exact ⟨ret_bool HF.out.symm, (by with_reducible (repeat (first | exact Ext.refl _ | apply Ext.drewN | apply Ext.drew | apply Ext.alloc | (refine Ext.set ?_ (by first | (simp; done) | (simp; omega) | omega) _) | (refine Ext.trans ?_ (by assumption)))))⟩
        · have HG := Lib.hid (HYES.out (by simp [pok, hr, hz]))
          go_wp2_with (go_at_call 21; (with_reducible refine (between_is _ _ _ _ hr _).mono ?_); rintro e w' ⟨rfl, rfl⟩)
          go_roundw
          case rel => exact ⟨k + 1, by omega, by go_num, HG.out, (by with_reducible (repeat (first | exact Ext.refl _ | apply Ext.drewN | apply Ext.drew | apply Ext.alloc | (refine Ext.set ?_ (by first | (simp; done) | (simp; omega) | omega) _) | (refine Ext.trans ?_ (by assumption)))))⟩
          case measure => simp [intOf]; omega
    · obtain rfl : k = n := by omega
      have HF : Hid (allp ts = true) := allp_yes (by rw [HL.out]; exact hall)
      go_wp2
      go_ret
      exact ⟨ret_bool HF.out.symm, (by with_reducible (repeat (first | exact Ext.refl _ | apply Ext.drewN | apply Ext.drew | apply Ext.alloc | (refine Ext.set ?_ (by first | (simp; done) | (simp; omega) | omega) _) | (refine Ext.trans ?_ (by assumption)))))⟩
set_option maxHeartbeats 1000000 in
theorem l06List_any (A : Option Addr) (n c : Nat) (ts : List (Int × Bool)) (w : World) (hI : Thr w A n ts) :
    Calls Tryz.prog 123 #[.slice A n c] w fun e w' => e = .returned (.bool (allp ts && btw (n : Int) 1 8)) ∧ w = w' := by
  have hs := hI.small
  have HL := Lib.hid hI.len
  go_enter Tryz.func123, Tryz.ntmps123
  go_wp2
  go_loop [3] (fun i => ∃ k : Nat, k ≤ n ∧ i = .int .i64 k ∧ AllP ts k) (fun i => n - (intOf i).toNat)
  case atStart => exact ⟨0, Nat.zero_le _, rfl, AllP.zero ts⟩
  case round =>
    obtain ⟨k, hk, rfl, hall⟩ := hrel
    by_cases hlt : k < n
    · obtain ⟨b, off, rfl, hb, hcell⟩ := hI.at_ (by omega)
      obtain ⟨c0, c1⟩ := hcell k hlt
      have hki : (k : Int) < n := by omega
      clear hcell
      obtain ⟨v, hv⟩ : ∃ v, tv ts k = v := ⟨_, rfl⟩
      obtain ⟨p, hp⟩ : ∃ p, tp ts k = p := ⟨_, rfl⟩
      have HNO : Hid (pok v p = false → (allp ts && btw (n : Int) 1 8) = false) := fun h => by rw [allp_no (by rw [HL.out]; exact hlt) (by rw [hv, hp]; exact h)]; rfl
      have HYES : Hid (pok v p = true → AllP ts (k + 1)) := fun h => hall.succ (by rw [hv, hp]; exact h)
      rw [hv] at c0
      rw [hp] at c1
      clear hv hp hall
      cases hr : btw v 0 15
      · have HF : Hid ((allp ts && btw (n : Int) 1 8) = false) := HNO.out (by simp [pok, hr])
        go_wp2_with (go_at_call 29; (with_reducible refine (l00In_is _ _ _ _ hr _).mono ?_); rintro e w' ⟨rfl, rfl⟩)
        go_ret
        exact ⟨ret_bool HF.out.symm, rfl⟩
      · by_cases hz : v = 0
        · subst hz
          cases p
          · have HG := Lib.hid (HYES.out (by simp [pok, hr]))
            go_wp2_with (go_at_call 29; (with_reducible refine (l00In_is _ _ _ _ hr _).mono ?_); rintro e w' ⟨rfl, rfl⟩)
            go_round
            case rel => exact ⟨k + 1, by omega, by go_num, HG.out⟩
            case measure => simp [intOf]; omega
          · have HF : Hid ((allp ts && btw (n : Int) 1 8) = false) := HNO.out (by simp [pok])
            go_wp2_with (go_at_call 29; (with_reducible refine (l00In_is _ _ _ _ hr _).mono ?_); rintro e w' ⟨rfl, rfl⟩)
            go_ret
            exact ⟨ret_bool HF.out.symm, rfl⟩
        · have HG := Lib.hid (HYES.out (by simp [pok, hr, hz]))
          go_wp2_with (go_at_call 29; (with_reducible refine (l00In_is _ _ _ _ hr _).mono ?_); rintro e w' ⟨rfl, rfl⟩)
          go_round
          case rel => exact ⟨k + 1, by omega, by go_num, HG.out⟩
          case measure => simp [intOf]; omega
    · obtain rfl : k = n := by omega
      have HF : Hid ((allp ts && btw (k : Int) 1 8) = btw (k : Int) 1 8) := by show _ = _; rw [allp_yes (by rw [HL.out]; exact hall)]; rfl
      go_wp2_with (go_at_call 29; (with_reducible refine (l00In_any _ _ _ _).mono ?_); rintro e w' ⟨rfl, rfl⟩)
      go_ret
      exact ⟨ret_bool HF.out.symm, rfl⟩
theorem l06List_is (A : Option Addr) (n c : Nat) (ts : List (Int × Bool)) (v : Bool) (hv : (allp ts && btw (n : Int) 1 8) = v) (w : World) (hI : Thr w A n ts) :
    Calls Tryz.prog 123 #[.slice A n c] w fun e w' => e = .returned (.bool v) ∧ w = w' := by
  subst hv
  exact l06List_any A n c ts w hI
theorem arePasses_is (A : Option Addr) (n c : Nat) (ts : List (Int × Bool)) (v : Bool) (hv : allp ts = v) (w : World) (hI : Thr w A n ts) :
    Calls Tryz.prog 120 #[.slice A n c] w fun e w' => e = .returned (.bool v) ∧ Ext w w' := by
  subst hv
  exact arePasses_any A n c ts w hI
set_option maxHeartbeats 1000000 in
theorem isPassingForm_any (A B : Option Addr) (n c m d : Nat) (ts us : List (Int × Bool)) (w : World) (hI : Thr w A n ts) (hJ : Thr w B m us) :
    Calls Tryz.prog 93 #[.agg #[.slice A n c, .slice B m d]] w fun e w' => e = .returned (.bool (fpas ts us)) ∧ Ext w w' := by
  have hs := hI.small
  have hs2 := hJ.small
  have e1 := hI.len
  have e2 := hJ.len
  have HX : Hid (fpas ts us = (btw (n : Int) 1 8 && (n == m) && allp ts && allp us)) := by show _ = _; unfold fpas; rw [e1, e2]
  clear e1 e2
  cases h1 : btw (n : Int) 1 8
  · have HF : Hid (fpas ts us = false) := by show _ = _; rw [HX.out, h1]; rfl
    go_enter Tryz.func93, Tryz.ntmps93
    go_wp2_with (go_at_call 21; (with_reducible refine (between_is _ _ _ _ h1 _).mono ?_); rintro e w' ⟨rfl, rfl⟩)
    go_ret
    exact ⟨ret_bool HF.out.symm, (by with_reducible (repeat (first | exact Ext.refl _ | apply Ext.drewN | apply Ext.drew | apply Ext.alloc | (refine Ext.set ?_ (by first | (simp; done) | (simp; omega) | omega) _) | (refine Ext.trans ?_ (by assumption)))))⟩
  · by_cases h2 : n = m
    · subst h2
      cases h3 : allp ts
      · have HF : Hid (fpas ts us = false) := by show _ = _; rw [HX.out, h3]; simp
        go_enter Tryz.func93, Tryz.ntmps93
        go_wp2_with (first | (go_at_call 21; (with_reducible refine (between_is _ _ _ _ h1 _).mono ?_); rintro e w' ⟨rfl, rfl⟩))
        (with_reducible refine (arePasses_is _ n _ ts _ h3 _ (hI.ext (by with_reducible (repeat (first | exact Ext.refl _ | apply Ext.drewN | apply Ext.drew | apply Ext.alloc | (refine Ext.set ?_ (by first | (simp; done) | (simp; omega) | omega) _) | (refine Ext.trans ?_ (by assumption))))))).mono ?_)
        rintro e w1 ⟨rfl, hx⟩
        go_wp2
        go_ret
        exact ⟨ret_bool HF.out.symm, (by with_reducible (repeat (first | exact Ext.refl _ | apply Ext.drewN | apply Ext.drew | apply Ext.alloc | (refine Ext.set ?_ (by first | (simp; done) | (simp; omega) | omega) _) | (refine Ext.trans ?_ (by assumption)))))⟩
      · cases h4 : allp us
        · have HF : Hid (fpas ts us = false) := by show _ = _; rw [HX.out, h4]; simp
          go_enter Tryz.func93, Tryz.ntmps93
          go_wp2_with (first | (go_at_call 21; (with_reducible refine (between_is _ _ _ _ h1 _).mono ?_); rintro e w' ⟨rfl, rfl⟩))
          (with_reducible refine (arePasses_is _ n _ ts _ h3 _ (hI.ext (by with_reducible (repeat (first | exact Ext.refl _ | apply Ext.drewN | apply Ext.drew | apply Ext.alloc | (refine Ext.set ?_ (by first | (simp; done) | (simp; omega) | omega) _) | (refine Ext.trans ?_ (by assumption))))))).mono ?_)
          rintro e w1 ⟨rfl, hx⟩
          have hz1 := hx.size
          (try simp at hz1)
          have q0 : w.heap.size < w1.heap.size := by omega
          have k0 : ∀ o, w1.cell? ⟨w.heap.size, o, none⟩ = _ := fun o => hx.cells.1 _ o (by first | (simp; done) | (simp; omega) | omega)
          have hE : Ext w w1 := Ext.trans (by with_reducible (repeat (first | exact Ext.refl _ | apply Ext.drewN | apply Ext.drew | apply Ext.alloc | (refine Ext.set ?_ (by first | (simp; done) | (simp; omega) | omega) _) | (refine Ext.trans ?_ (by assumption))))) hx
          go_wp2_with fail
          (with_reducible refine (arePasses_is _ n _ us _ h4 _ (hJ.ext hE)).mono ?_)
          rintro e w2 ⟨rfl, hx2⟩
          go_wp2
          go_ret
          exact ⟨ret_bool HF.out.symm, hE.trans hx2⟩
        · have HF : Hid (fpas ts us = true) := by show _ = _; rw [HX.out, h1, h3, h4]; simp
          go_enter Tryz.func93, Tryz.ntmps93
          go_wp2_with (first | (go_at_call 21; (with_reducible refine (between_is _ _ _ _ h1 _).mono ?_); rintro e w' ⟨rfl, rfl⟩))
          (with_reducible refine (arePasses_is _ n _ ts _ h3 _ (hI.ext (by with_reducible (repeat (first | exact Ext.refl _ | apply Ext.drewN | apply Ext.drew | apply Ext.alloc | (refine Ext.set ?_ (by first | (simp; done) | (simp; omega) | omega) _) | (refine Ext.trans ?_ (by assumption))))))).mono ?_)
          rintro e w1 ⟨rfl, hx⟩
          have hz1 := hx.size
          (try simp at hz1)
          have q0 : w.heap.size < w1.heap.size := by omega
          have k0 : ∀ o, w1.cell? ⟨w.heap.size, o, none⟩ = _ := fun o => hx.cells.1 _ o (by first | (simp; done) | (simp; omega) | omega)
          have hE : Ext w w1 := Ext.trans (by with_reducible (repeat (first | exact Ext.refl _ | apply Ext.drewN | apply Ext.drew | apply Ext.alloc | (refine Ext.set ?_ (by first | (simp; done) | (simp; omega) | omega) _) | (refine Ext.trans ?_ (by assumption))))) hx
          go_wp2_with fail
          (with_reducible refine (arePasses_is _ n _ us _ h4 _ (hJ.ext hE)).mono ?_)
          rintro e w2 ⟨rfl, hx2⟩
          go_wp2
          go_ret
          exact ⟨ret_bool HF.out.symm, hE.trans hx2⟩
    · have HF : Hid (fpas ts us = false) := by show _ = _; rw [HX.out]; simp [h2]
      have h2i : ¬ (n : Int) = m := by omega
      go_enter Tryz.func93, Tryz.ntmps93
      go_wp2_with (go_at_call 21; (with_reducible refine (between_is _ _ _ _ h1 _).mono ?_); rintro e w' ⟨rfl, rfl⟩)
      go_ret
      exact ⟨ret_bool HF.out.symm, (by with_reducible (repeat (first | exact Ext.refl _ | apply Ext.drewN | apply Ext.drew | apply Ext.alloc | (refine Ext.set ?_ (by first | (simp; done) | (simp; omega) | omega) _) | (refine Ext.trans ?_ (by assumption)))))⟩
/-- A box of a pattern. -/
structure PBox (w : World) (b : Nat) (A : Option Addr) (n c : Nat) (B : Option Addr) (m d : Nat) : Prop where
  lt : b < w.heap.size
  c0 : w.cell? ⟨b, 0, none⟩ = some (.slice A n c)
  c1 : w.cell? ⟨b, 1, none⟩ = some (.slice B m d)
theorem PBox.ext {w w' : World} {b : Nat} {A : Option Addr} {n c : Nat} {B : Option Addr} {m d : Nat} (h : PBox w b A n c B m d) (k : Ext w w') : PBox w' b A n c B m d :=
  ⟨Nat.lt_of_lt_of_le h.lt k.size, k.cell h.lt h.c0, k.cell h.lt h.c1⟩
set_option maxHeartbeats 1000000 in
theorem l06Shape_any (b : Nat) (A B : Option Addr) (n c m d : Nat) (ts us : List (Int × Bool)) (w : World) (hb : PBox w b A n c B m d) (hI : Thr w A n ts) (hJ : Thr w B m us) :
    Calls Tryz.prog 104 #[.pointer (some ⟨b, 0, none⟩)] w fun e w' => e = .returned (.bool (fpas ts us)) ∧ Qt w w' := by
  have hs := hI.small
  have hs2 := hJ.small
  have e1 := hI.len
  have e2 := hJ.len
  have HX : Hid (fpas ts us = (btw (n : Int) 1 8 && (n == m) && allp ts && allp us)) := by show _ = _; unfold fpas; rw [e1, e2]
  clear e1 e2
  obtain ⟨hlt, c0, c1⟩ := hb
  cases h1 : (allp ts && btw (n : Int) 1 8)
  · have HF : Hid (fpas ts us = false) := by
      show _ = _
      rw [HX.out]
      cases ha : allp ts
      · simp
      · rw [ha, Bool.true_and] at h1; rw [h1]; simp
    go_enter Tryz.func104, Tryz.ntmps104
    go_wp2
    go_quiet ((go_at_call 123; first | with_reducible exact quiet_l (l06List_is A n c ts _ h1 _ (hI.ext (by with_reducible (repeat (first | exact Ext.refl _ | apply Ext.drewN | apply Ext.drew | apply Ext.alloc | (refine Ext.set ?_ (by first | (simp; done) | (simp; omega) | omega) _) | (refine Ext.trans ?_ (by assumption))))))) | with_reducible exact quiet_la (l06List_is A n c ts _ h1 _ (hI.ext (by with_reducible (repeat (first | exact Ext.refl _ | apply Ext.drewN | apply Ext.drew | apply Ext.alloc | (refine Ext.set ?_ (by first | (simp; done) | (simp; omega) | omega) _) | (refine Ext.trans ?_ (by assumption)))))))))
    go_wp2
    go_ret
    exact ⟨ret_bool HF.out.symm, (by first | exact ⟨_, rfl⟩ | exact ⟨_, World.drewN_drewN _ _ _⟩)⟩
  · cases h2 : (allp us && btw (m : Int) 1 8)
    · have HF : Hid (fpas ts us = false) := by
        show _ = _
        rw [HX.out]
        cases ha : allp us
        · simp
        · rw [ha, Bool.true_and] at h2
          by_cases e : n = m
          · subst e; rw [h2]; simp
          · simp [e]
      go_enter Tryz.func104, Tryz.ntmps104
      go_wp2
      go_quiet (first | (go_at_call 123; first | with_reducible exact quiet_l (l06List_is A n c ts _ h1 _ (hI.ext (by with_reducible (repeat (first | exact Ext.refl _ | apply Ext.drewN | apply Ext.drew | apply Ext.alloc | (refine Ext.set ?_ (by first | (simp; done) | (simp; omega) | omega) _) | (refine Ext.trans ?_ (by assumption))))))) | with_reducible exact quiet_la (l06List_is A n c ts _ h1 _ (hI.ext (by with_reducible (repeat (first | exact Ext.refl _ | apply Ext.drewN | apply Ext.drew | apply Ext.alloc | (refine Ext.set ?_ (by first | (simp; done) | (simp; omega) | omega) _) | (refine Ext.trans ?_ (by assumption)))))))) | (go_at_call 123; first | with_reducible exact quiet_l (l06List_is B m d us _ h2 _ (hJ.ext (by with_reducible (repeat (first | exact Ext.refl _ | apply Ext.drewN | apply Ext.drew | apply Ext.alloc | (refine Ext.set ?_ (by first | (simp; done) | (simp; omega) | omega) _) | (refine Ext.trans ?_ (by assumption))))))) | with_reducible exact quiet_la (l06List_is B m d us _ h2 _ (hJ.ext (by with_reducible (repeat (first | exact Ext.refl _ | apply Ext.drewN | apply Ext.drew | apply Ext.alloc | (refine Ext.set ?_ (by first | (simp; done) | (simp; omega) | omega) _) | (refine Ext.trans ?_ (by assumption)))))))))
      go_wp2
      go_ret
      exact ⟨ret_bool HF.out.symm, (by first | exact ⟨_, rfl⟩ | exact ⟨_, World.drewN_drewN _ _ _⟩)⟩
    · have HF : Hid (fpas ts us = (n == m)) := by
        show _ = _
        rw [HX.out]
        simp only [Bool.and_eq_true] at h1 h2
        rw [h1.1, h1.2, h2.1]
        simp
      by_cases h3 : n = m
      · subst h3
        go_enter Tryz.func104, Tryz.ntmps104
        go_wp2
        go_quiet (first | (go_at_call 123; first | with_reducible exact quiet_l (l06List_is A n c ts _ h1 _ (hI.ext (by with_reducible (repeat (first | exact Ext.refl _ | apply Ext.drewN | apply Ext.drew | apply Ext.alloc | (refine Ext.set ?_ (by first | (simp; done) | (simp; omega) | omega) _) | (refine Ext.trans ?_ (by assumption))))))) | with_reducible exact quiet_la (l06List_is A n c ts _ h1 _ (hI.ext (by with_reducible (repeat (first | exact Ext.refl _ | apply Ext.drewN | apply Ext.drew | apply Ext.alloc | (refine Ext.set ?_ (by first | (simp; done) | (simp; omega) | omega) _) | (refine Ext.trans ?_ (by assumption)))))))) | (go_at_call 123; first | with_reducible exact quiet_l (l06List_is B n d us _ h2 _ (hJ.ext (by with_reducible (repeat (first | exact Ext.refl _ | apply Ext.drewN | apply Ext.drew | apply Ext.alloc | (refine Ext.set ?_ (by first | (simp; done) | (simp; omega) | omega) _) | (refine Ext.trans ?_ (by assumption))))))) | with_reducible exact quiet_la (l06List_is B n d us _ h2 _ (hJ.ext (by with_reducible (repeat (first | exact Ext.refl _ | apply Ext.drewN | apply Ext.drew | apply Ext.alloc | (refine Ext.set ?_ (by first | (simp; done) | (simp; omega) | omega) _) | (refine Ext.trans ?_ (by assumption)))))))))
        go_wp2
        go_ret
        exact ⟨ret_bool (by have := HF.out; simp [this]), (by first | exact ⟨_, rfl⟩ | exact ⟨_, World.drewN_drewN _ _ _⟩)⟩
      · have h3i : ¬ (n : Int) = m := by omega
        go_enter Tryz.func104, Tryz.ntmps104
        go_wp2
        go_quiet (first | (go_at_call 123; first | with_reducible exact quiet_l (l06List_is A n c ts _ h1 _ (hI.ext (by with_reducible (repeat (first | exact Ext.refl _ | apply Ext.drewN | apply Ext.drew | apply Ext.alloc | (refine Ext.set ?_ (by first | (simp; done) | (simp; omega) | omega) _) | (refine Ext.trans ?_ (by assumption))))))) | with_reducible exact quiet_la (l06List_is A n c ts _ h1 _ (hI.ext (by with_reducible (repeat (first | exact Ext.refl _ | apply Ext.drewN | apply Ext.drew | apply Ext.alloc | (refine Ext.set ?_ (by first | (simp; done) | (simp; omega) | omega) _) | (refine Ext.trans ?_ (by assumption)))))))) | (go_at_call 123; first | with_reducible exact quiet_l (l06List_is B m d us _ h2 _ (hJ.ext (by with_reducible (repeat (first | exact Ext.refl _ | apply Ext.drewN | apply Ext.drew | apply Ext.alloc | (refine Ext.set ?_ (by first | (simp; done) | (simp; omega) | omega) _) | (refine Ext.trans ?_ (by assumption))))))) | with_reducible exact quiet_la (l06List_is B m d us _ h2 _ (hJ.ext (by with_reducible (repeat (first | exact Ext.refl _ | apply Ext.drewN | apply Ext.drew | apply Ext.alloc | (refine Ext.set ?_ (by first | (simp; done) | (simp; omega) | omega) _) | (refine Ext.trans ?_ (by assumption)))))))))
        go_wp2
        go_ret
        exact ⟨ret_bool (by rw [HF.out, beq_eq_false_iff_ne.2 h3, beq_eq_false_iff_ne.2 h3i]), (by first | exact ⟨_, rfl⟩ | exact ⟨_, World.drewN_drewN _ _ _⟩)⟩
theorem l06Land_any (v : Int) (p b : Bool) (k n : Nat) (w : World) (hv : 0 ≤ v ∧ v ≤ 15) (hn : 1 ≤ n ∧ n ≤ 8) (hk : k < n) :
    Calls Tryz.prog 105 #[.agg #[.int .i64 v, .bool p], .int .i64 (if b then 0 else 1), .int .i64 k, .int .i64 n] w fun e w' => e = .returned (.int .i64 (((k + v.toNat) % n * 2 + (if p == b then 1 else 0) : Nat) : Int)) ∧ Ext w w' := by
  obtain ⟨u, rfl⟩ : ∃ u : Nat, v = u := ⟨v.toNat, by omega⟩
  have hm := Nat.mod_lt (k + u) (show 0 < n by omega)
  have hm2 : ((k : Int) + u) % n = (((k + u) % n : Nat) : Int) := by norm_cast
  rw [Int.toNat_natCast]
  generalize (k + u) % n = q at hm hm2 ⊢
  cases b <;> cases p <;>
  · go_enter Tryz.func105, Tryz.ntmps105
    go_wp2
    go_ret
    exact ⟨ret_int (by simp), (by with_reducible (repeat (first | exact Ext.refl _ | apply Ext.drewN | apply Ext.drew | apply Ext.alloc | (refine Ext.set ?_ (by first | (simp; done) | (simp; omega) | omega) _) | (refine Ext.trans ?_ (by assumption)))))⟩
theorem l06Land_is (b : Bool) (j : Int) (hj : j = if b then 0 else 1) (v : Int) (p : Bool) (ts : List (Int × Bool)) (k n o : Nat) (w : World) (h1 : tv ts k = v) (h2 : tp ts k = p) (hv : 0 ≤ v ∧ v ≤ 15) (hn : 1 ≤ n ∧ n ≤ 8) (hk : k < n) (ho : lj b n ts k = o) :
    Calls Tryz.prog 105 #[.agg #[.int .i64 v, .bool p], .int .i64 j, .int .i64 k, .int .i64 n] w fun e w' => e = .returned (.int .i64 (o : Int)) ∧ Ext w w' := by
  subst hj ho h1 h2
  exact l06Land_any _ _ b k n w hv hn hk
end Go.Proofs.YtbihbhdaenhdoaaGreat
