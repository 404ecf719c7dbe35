/- Sld Alo Apt Slx Sgn in one text (a claim has at most 60 files). No condition but the stated bounds. -/
import Derived.Test.YtbihbhdaenhdoaaGreatSom
import Derived.Test.YtbihbhdaenhdoaaGreatThr4
import Derived.Deep.RegionLawGrows
import Derived.Deep.RegionHeld3
import Derived.Test.YtbihbhdaenhdoaaGreatCla
import Derived.Test.YtbihbhdaenhdoaaGreatThr3
import Derived.Test.YtbihbhdaenhdoaaGreatVnt
import Derived.Test.YtbihbhdaenhdoaaGreatCnx
namespace Go.Proofs.YtbihbhdaenhdoaaGreat
set_option linter.unusedVariables false
set_option linter.unusedSimpArgs false
open Go.ChangeShapes Go.WideShapes Go.ChangeAt Go.RowKit Go.Joins Go.Deep

/-- The throw of the pattern for the throw with a number. -/
def sdv (v : Int) (p : Bool) (k : Nat) : Int := if p then (if k % 2 = 0 then v + 1 else v - 1) else v
/-- The first k of them. -/
def sld (ts : List (Int × Bool)) (k : Nat) : List Int := (List.range k).map (fun i => sdv (tv ts i) (tp ts i) i)
theorem sld_len (ts : List (Int × Bool)) (k : Nat) : (sld ts k).length = k := by simp [sld]
theorem sld_succ (ts : List (Int × Bool)) (k : Nat) : sld ts (k + 1) = sld ts k ++ [sdv (tv ts k) (tp ts k) k] := by simp [sld, List.range_succ]
theorem l05Slide_any (A : Option Addr) (n c : Nat) (ts : List (Int × Bool)) (k : Nat) (hk : k < 2 * n) (hn : n ≤ 6) (hs : sok (tv ts k) (tp ts k) = true) (w : World) (hI : Syn w A n ts) :
    Calls Tryz.prog 106 #[.slice A n c, .int .i64 k] w fun e w' => e = .returned (.int .i64 (sdv (tv ts k) (tp ts k) k)) ∧ Ext w w' := by
  obtain ⟨s0, s1, -, -⟩ := sok_bd hs
  obtain ⟨v, hv⟩ : ∃ v, tv ts k = v := ⟨_, rfl⟩
  obtain ⟨p, hp⟩ : ∃ p, tp ts k = p := ⟨_, rfl⟩
  have HV := Lib.hid hv
  have HP := Lib.hid hp
  rw [hv] at s0 s1
  rw [hv, hp]
  clear hv hp hs
  obtain ⟨z, hz⟩ : ∃ z, sdv v p k = z := ⟨_, rfl⟩
  have HZ := Lib.hid hz
  rw [hz]
  clear hz
  obtain ⟨x, hx0⟩ : ∃ x, k % 2 = x := ⟨_, rfl⟩
  have hx1 : Int.tmod (k : Int) 2 = x := by rw [← hx0]; rfl
  have HX := Lib.hid hx0
  have hxb : x = 0 ∨ x = 1 := by omega
  clear hx0
  go_enter Tryz.func106, Tryz.ntmps106
  go_wp2_with fail
  (with_reducible refine (l05At_any A n c ts k hk (by omega) _ (hI.ext (by with_reducible (repeat (first | exact Ext.refl _ | apply Ext.drewN | apply Ext.drew | apply Ext.alloc | (refine Ext.set ?_ (by first | (simp; done) | (simp; omega) | omega) _) | (refine Ext.trans ?_ (by assumption))))))).mono ?_)
  rw [HV.out, HP.out]
  rintro e w1 ⟨rfl, hx⟩
  have hE : Ext w w1 := hx
  clear hx
  cases p
  · have e : z = v := by have := HZ.out; simp [sdv] at this; omega
    subst e
    go_wp2
    go_ret
    exact ⟨rfl, (by with_reducible (repeat (first | exact Ext.refl _ | apply Ext.drewN | apply Ext.drew | apply Ext.alloc | (refine Ext.set ?_ (by first | (simp; done) | (simp; omega) | omega) _) | (refine Ext.trans ?_ (by assumption)))))⟩
  · rcases hxb with rfl | rfl
    · have e : z = v + 1 := by have := HZ.out; simp [sdv, HX.out] at this; omega
      clear HZ
      subst e
      go_wp2
      go_ret
      exact ⟨rfl, (by with_reducible (repeat (first | exact Ext.refl _ | apply Ext.drewN | apply Ext.drew | apply Ext.alloc | (refine Ext.set ?_ (by first | (simp; done) | (simp; omega) | omega) _) | (refine Ext.trans ?_ (by assumption)))))⟩
    · have e : z = v - 1 := by have := HZ.out; simp [sdv, HX.out] at this; omega
      clear HZ
      subst e
      go_wp2
      go_ret
      exact ⟨rfl, (by with_reducible (repeat (first | exact Ext.refl _ | apply Ext.drewN | apply Ext.drew | apply Ext.alloc | (refine Ext.set ?_ (by first | (simp; done) | (simp; omega) | omega) _) | (refine Ext.trans ?_ (by assumption)))))⟩
set_option maxRecDepth 100000 in
set_option maxHeartbeats 2000000 in
theorem slid_any (A : Option Addr) (n c : Nat) (ts : List (Int × Bool)) (w : World) (hI : Syn w A n ts) (ht : slis ts = true) :
    Calls Tryz.prog 60 #[.slice A n c] w (RetInts w (sld ts (2 * n))) := by
  obtain ⟨hn1, hn6, hsk⟩ := slis_iff hI.len ht
  have HSOK := Lib.hid hsk
  clear hsk ht
  obtain ⟨i0, hi, hz0, hz1, hz2⟩ := info_parts infoInt
  go_enter Tryz.func60, Tryz.ntmps60
  go_wp2
  go_loopw [3, 11] (fun v i wr => ∃ k : Nat, k ≤ 2 * n ∧ i = .int .i64 k ∧ Own w wr v (sld ts k)) (fun _ i _ => 2 * n - (intOf i).toNat)
  case atStart => exact ⟨0, Nat.zero_le _, rfl, own_empty (Ext.refl _)⟩
  case round =>
    obtain ⟨k, hk, rfl, hown⟩ := hrel
    by_cases hlt : k < 2 * n
    · have hki : (k : Int) < 2 * n := by omega
      obtain ⟨s0, s1, -, -⟩ := sok_bd (HSOK.out k hlt)
      have hlen : (sld ts k).length ≤ 1000000 := by rw [sld_len]; omega
      have HS := Lib.hid (sld_succ ts k)
      obtain ⟨v, hv⟩ : ∃ v, tv ts k = v := ⟨_, rfl⟩
      obtain ⟨p, hp⟩ : ∃ p, tp ts k = p := ⟨_, rfl⟩
      have HV := Lib.hid hv
      have HP := Lib.hid hp
      rw [hv] at s0 s1
      clear hv hp
      rw [HV.out, HP.out] at HS
      obtain ⟨x, hx0⟩ : ∃ x, k % 2 = x := ⟨_, rfl⟩
      have hx1 : Int.tmod (k : Int) 2 = x := by rw [← hx0]; rfl
      have HX := Lib.hid hx0
      have hxb : x = 0 ∨ x = 1 := by omega
      clear hx0
      go_wp2_with fail
      (with_reducible refine (numbered_any A n c ts k hlt (by omega) _ (hI.ext hown.ext)).mono ?_)
      rw [HV.out, HP.out]
      rintro e w1 ⟨rfl, hx⟩
      have hown1 := hown.trans hx
      have HSZ : Hid ((w1.alloc (.cells #[.int .i64 v, .bool p] 99)).heap.size = w1.heap.size + 1) := by show _ = _; simp
      have hown2 : Own w (w1.alloc (.cells #[.int .i64 v, .bool p] 99)) _ (sld ts k) := hown1.trans ((Ext.refl _).alloc _)
      clear hown hx
      cases p
      · have HE : Hid (sdv v false k = v) := by show _ = _; simp [sdv]
        go_wp2_with (at_builtin; refine app1 rfl _ _ rfl _ _ _ rfl hown2 (by rw [HSZ.out]; rfl) hlen ?_; intro v' w3 hown')
        go_roundw
        case rel => exact ⟨k + 1, by omega, by go_num, by rw [HS.out, HE.out]; exact hown'⟩
        case measure => simp [intOf]; omega
      · rcases hxb with rfl | rfl
        · have HE : Hid (sdv v true k = v + 1) := by show _ = _; simp [sdv, HX.out]
          go_wp2_with (at_builtin; refine app1 rfl _ _ rfl _ _ _ rfl hown2 (by rw [HSZ.out]; rfl) hlen ?_; intro v' w3 hown')
          go_roundw
          case rel => exact ⟨k + 1, by omega, by go_num, by rw [HS.out, HE.out]; exact hown'⟩
          case measure => simp [intOf]; omega
        · have HE : Hid (sdv v true k = v - 1) := by show _ = _; simp [sdv, HX.out]
          go_wp2_with (at_builtin; refine app1 rfl _ _ rfl _ _ _ rfl hown2 (by rw [HSZ.out]; rfl) hlen ?_; intro v' w3 hown')
          go_roundw
          case rel => exact ⟨k + 1, by omega, by go_num, by rw [HS.out, HE.out]; exact hown'⟩
          case measure => simp [intOf]; omega
    · obtain rfl : k = 2 * n := by omega
      obtain ⟨A1, c1, rfl⟩ := hown.forms
      go_wp2
      go_ret
      exact ⟨_, _, rfl, hown⟩
/-- A slice of numbers of the call's own, and a code. -/
def RetIC (w : World) (ys : List Int) (r : Int) (e : Ending) (w' : World) : Prop := ∃ A c, e = .returned (.tuple #[.slice A ys.length c, .int .i64 r]) ∧ Own w w' (.slice A ys.length c) ys
set_option maxHeartbeats 2000000 in
theorem specSlideSync_any (A : Option Addr) (n c : Nat) (ts : List (Int × Bool)) (w : World) (hI : Syn w A n ts) (hV : vsyn ts = true) :
    Calls Tryz.prog 74 #[.slice A n c] w (RetIC w (sld ts (2 * n)) 0) := by
  have ht : slis ts = true := by unfold vsyn at hV; rw [Bool.and_eq_true] at hV; exact hV.1
  obtain ⟨hn1, hn6, hsk⟩ := slis_iff hI.len ht
  have HSOK := Lib.hid hsk
  clear hsk ht
  obtain ⟨i0, hi, hz0, hz1, hz2⟩ := info_parts infoInt
  go_enter Tryz.func74, Tryz.ntmps74
  go_wp2_with fail
  (with_reducible refine (l05Ok_is A n c ts _ hV _ hI).mono ?_)
  rintro e w1 ⟨rfl, hx1⟩
  go_wp2
  go_loopw [4, 5] (fun v i wr => ∃ k : Nat, k ≤ 2 * n ∧ i = .int .i64 k ∧ Own w wr v (sld ts k)) (fun _ i _ => 2 * n - (intOf i).toNat)
  case atStart => exact ⟨0, Nat.zero_le _, rfl, own_empty hx1⟩
  case round =>
    obtain ⟨k, hk, rfl, hown⟩ := hrel
    by_cases hlt : k < 2 * n
    · have hki : (k : Int) < 2 * n := by omega
      have hlen : (sld ts k).length ≤ 1000000 := by rw [sld_len]; omega
      have HS := Lib.hid (sld_succ ts k)
      go_wp2_with fail
      (with_reducible refine (l05Slide_any A n c ts k hlt (by omega) (HSOK.out k hlt) _ (hI.ext hown.ext)).mono ?_)
      generalize sdv (tv ts k) (tp ts k) k = z at HS ⊢
      rintro e w2 ⟨rfl, hx⟩
      have hown1 := hown.trans hx
      clear hown hx
      go_wp2_with (at_builtin; refine app1 rfl _ _ rfl _ _ _ rfl hown1 rfl hlen ?_; intro v' w3 hown')
      go_roundw
      case rel => exact ⟨k + 1, by omega, by go_num, by rw [HS.out]; exact hown'⟩
      case measure => simp [intOf]; omega
    · obtain rfl : k = 2 * n := by omega
      obtain ⟨A1, c1, rfl⟩ := hown.forms
      go_wp2
      go_ret2
      exact ⟨_, _, rfl, hown⟩
end Go.Proofs.YtbihbhdaenhdoaaGreat

namespace Go.Proofs.YtbihbhdaenhdoaaGreat
set_option linter.unusedVariables false
set_option linter.unusedSimpArgs false
open Go.ChangeShapes Go.WideShapes Go.ChangeAt Go.RowKit Go.Joins Go.Deep

/-- The values of the first k throws. -/
def vls (ts : List (Int × Bool)) (k : Nat) : List Int := (List.range k).map (fun i => tv ts i)
theorem vls_len (ts : List (Int × Bool)) (k : Nat) : (vls ts k).length = k := by simp [vls]
theorem vls_succ (ts : List (Int × Bool)) (k : Nat) : vls ts (k + 1) = vls ts k ++ [tv ts k] := by simp [vls, List.range_succ]
/-- The beats with a pass among the first k. -/
def pbs (ts : List (Int × Bool)) : Nat → List Int
  | 0 => []
  | k + 1 => pbs ts k ++ (if tp ts k then [(k : Int)] else [])
theorem pbs_len (ts : List (Int × Bool)) : ∀ k, (pbs ts k).length ≤ k
  | 0 => Nat.le_refl _
  | k + 1 => by
    have := pbs_len ts k
    unfold pbs
    rw [List.length_append]
    split <;> simp <;> omega
/-- No pass among the first k. -/
def NoP (ts : List (Int × Bool)) (k : Nat) : Prop := ∀ i, i < k → tp ts i = false
instance (ts : List (Int × Bool)) (k : Nat) : Decidable (NoP ts k) := by unfold NoP; infer_instance
theorem NoP.succ {ts : List (Int × Bool)} {k : Nat} (h : NoP ts k) (hk : tp ts k = false) : NoP ts (k + 1) := fun i hi => by
  by_cases e : i = k
  · rw [e]; exact hk
  · exact h i (by omega)
theorem pbs_none (ts : List (Int × Bool)) : ∀ k, (pbs ts k).length = 0 ↔ NoP ts k
  | 0 => ⟨fun _ i h => absurd h (by omega), fun _ => rfl⟩
  | k + 1 => by
    have ih := pbs_none ts k
    unfold pbs
    rw [List.length_append]
    constructor
    · intro h i hi
      by_cases e : i = k
      · subst e
        cases hp : tp ts i
        · rfl
        · rw [hp] at h; simp at h
      · exact ih.1 (by omega) i (by omega)
    · intro h
      rw [h k (by omega), ih.2 (fun i hi => h i (by omega))]
      rfl
set_option maxRecDepth 100000 in
set_option maxHeartbeats 1000000 in
theorem valuesOf_any (A : Option Addr) (n c : Nat) (ts : List (Int × Bool)) (w : World) (hI : Thr w A n ts) (hn : n ≤ 1000) :
    Calls Tryz.prog 96 #[.slice A n c] w (RetInts w (vls ts n)) := by
  obtain ⟨i0, hi, hz0, hz1, hz2⟩ := info_parts infoInt
  go_enter Tryz.func96, Tryz.ntmps96
  go_wp2
  go_loopw [3, 9] (fun v i wr => ∃ k : Nat, k ≤ n ∧ i = .int .i64 k ∧ Own w wr v (vls ts k)) (fun _ i _ => n - (intOf i).toNat)
  case atStart => exact ⟨0, Nat.zero_le _, rfl, own_empty (Ext.refl _)⟩
  case round =>
    obtain ⟨k, hk, rfl, hown⟩ := hrel
    by_cases hlt : k < n
    · obtain ⟨b, off, rfl, hb, hcell⟩ := (hI.ext hown.ext).at_ (by omega)
      obtain ⟨c0, c1⟩ := hcell k hlt
      have hki : (k : Int) < n := by omega
      have hlen : (vls ts k).length ≤ 1000000 := by rw [vls_len]; omega
      have HS := Lib.hid (vls_succ ts k)
      clear hcell
      generalize tv ts k = v at c0 HS
      generalize tp ts k = p at c1
      have HSZ : Hid ((wr.alloc (.cells #[.int .i64 v, .bool p] 86)).heap.size = wr.heap.size + 1) := by show _ = _; simp
      have hown2 : Own w (wr.alloc (.cells #[.int .i64 v, .bool p] 86)) _ (vls ts k) := hown.trans ((Ext.refl _).alloc _)
      go_wp2_with (at_builtin; refine app1 rfl _ _ rfl _ _ _ rfl hown2 (by rw [HSZ.out]; rfl) hlen ?_; intro v' w3 hown')
      go_roundw
      case rel => exact ⟨k + 1, by omega, by go_num, by rw [HS.out]; exact hown'⟩
      case measure => simp [intOf]; omega
    · obtain rfl : k = n := by omega
      obtain ⟨A1, c1, rfl⟩ := hown.forms
      go_wp2
      go_ret
      exact ⟨_, _, rfl, hown⟩
set_option maxRecDepth 100000 in
set_option maxHeartbeats 1000000 in
theorem passBeats_any (A : Option Addr) (n c : Nat) (ts : List (Int × Bool)) (w : World) (hI : Thr w A n ts) (hn : n ≤ 1000) :
    Calls Tryz.prog 95 #[.slice A n c] w (RetInts w (pbs ts n)) := by
  obtain ⟨i0, hi, hz0, hz1, hz2⟩ := info_parts infoInt
  go_enter Tryz.func95, Tryz.ntmps95
  go_wp2
  go_loopw [3, 9] (fun v i wr => ∃ k : Nat, k ≤ n ∧ i = .int .i64 k ∧ Own w wr v (pbs ts k)) (fun _ i _ => n - (intOf i).toNat)
  case atStart => exact ⟨0, Nat.zero_le _, rfl, own_empty (Ext.refl _)⟩
  case round =>
    obtain ⟨k, hk, rfl, hown⟩ := hrel
    by_cases hlt : k < n
    · obtain ⟨b, off, rfl, hb, hcell⟩ := (hI.ext hown.ext).at_ (by omega)
      obtain ⟨c0, c1⟩ := hcell k hlt
      have hki : (k : Int) < n := by omega
      have hlen : (pbs ts k).length ≤ 1000000 := by have := pbs_len ts k; omega
      have HS : Hid (pbs ts (k + 1) = pbs ts k ++ (if tp ts k then [(k : Int)] else [])) := rfl
      clear hcell
      generalize tv ts k = v at c0
      generalize tp ts k = p at c1 HS
      have HSZ : Hid ((wr.alloc (.cells #[.int .i64 v, .bool p] 86)).heap.size = wr.heap.size + 1) := by show _ = _; simp
      have hown2 : Own w (wr.alloc (.cells #[.int .i64 v, .bool p] 86)) _ (pbs ts k) := hown.trans ((Ext.refl _).alloc _)
      cases p
      · have HE : Hid (pbs ts (k + 1) = pbs ts k) := by show _ = _; rw [HS.out]; simp
        have HO := Lib.hid hown2
        clear hown hown2
        go_wp2
        go_roundw
        case rel => exact ⟨k + 1, by omega, by go_num, by rw [HE.out]; exact HO.out⟩
        case measure => simp [intOf]; omega
      · have HE : Hid (pbs ts (k + 1) = pbs ts k ++ [(k : Int)]) := by show _ = _; rw [HS.out]; simp
        go_wp2_with (at_builtin; refine app1 rfl _ _ rfl _ _ _ rfl hown2 (by rw [HSZ.out]; rfl) hlen ?_; intro v' w3 hown')
        go_roundw
        case rel => exact ⟨k + 1, by omega, by go_num, by rw [HE.out]; exact hown'⟩
        case measure => simp [intOf]; omega
    · obtain rfl : k = n := by omega
      obtain ⟨A1, c1, rfl⟩ := hown.forms
      go_wp2
      go_ret
      exact ⟨_, _, rfl, hown⟩
/-- What l06Alone hands back. -/
def RetAl (w : World) (ts : List (Int × Bool)) (n : Nat) (e : Ending) (w' : World) : Prop :=
  (NoP ts n ∧ ∃ A c, e = .returned (.tuple #[.slice A n c, .bool true]) ∧ Own w w' (.slice A n c) (vls ts n)) ∨ (¬ NoP ts n ∧ e = .returned (.tuple #[.slice none 0 0, .bool false]) ∧ Ext w w')
set_option maxRecDepth 100000 in
set_option maxHeartbeats 1000000 in
theorem l06Alone_any (A : Option Addr) (n c : Nat) (ts : List (Int × Bool)) (w : World) (hI : Thr w A n ts) (hn : n ≤ 1000) :
    Calls Tryz.prog 107 #[.slice A n c] w (RetAl w ts n) := by
  obtain ⟨i0, hi, hz0, hz1, hz2⟩ := info_parts infoInt
  go_enter Tryz.func107, Tryz.ntmps107
  go_wp2
  go_loopw [4, 5] (fun v i wr => ∃ k : Nat, k ≤ n ∧ i = .int .i64 k ∧ NoP ts k ∧ Own w wr v (vls ts k)) (fun _ i _ => n - (intOf i).toNat)
  case atStart => exact ⟨0, Nat.zero_le _, rfl, fun i h => absurd h (by omega), own_empty (Ext.refl _)⟩
  case round =>
    obtain ⟨k, hk, rfl, hno, hown⟩ := hrel
    have HNO := Lib.hid hno
    clear hno
    by_cases hlt : k < n
    · obtain ⟨b, off, rfl, hb, hcell⟩ := (hI.ext hown.ext).at_ (by omega)
      obtain ⟨c0, c1⟩ := hcell k hlt
      have hki : (k : Int) < n := by omega
      have hlen : (vls ts k).length ≤ 1000000 := by rw [vls_len]; omega
      have HS := Lib.hid (vls_succ ts k)
      have HY : Hid (tp ts k = false → NoP ts (k + 1)) := fun h => HNO.out.succ h
      have HN : Hid (tp ts k = true → ¬ NoP ts n) := fun h h2 => by have := h2 k hlt; rw [h] at this; cases this
      clear hcell
      generalize tv ts k = v at c0 HS
      obtain ⟨p, hp⟩ : ∃ p, tp ts k = p := ⟨_, rfl⟩
      rw [hp] at c1
      have HP := Lib.hid hp
      clear hp
      cases p
      · have HG := Lib.hid (HY.out HP.out)
        go_wp2_with (at_builtin; refine app1 rfl _ _ rfl _ _ _ rfl hown rfl hlen ?_; intro v' w3 hown')
        go_roundw
        case rel => exact ⟨k + 1, by omega, by go_num, HG.out, by rw [HS.out]; exact hown'⟩
        case measure => simp [intOf]; omega
      · have HG : Hid (RetAl w ts n (.returned (.tuple #[.slice none 0 0, .bool false])) wr) := .inr ⟨HN.out HP.out, rfl, hown.ext⟩
        go_wp2
        go_ret2
        exact HG.out
    · obtain rfl : k = n := by omega
      obtain ⟨A1, c1, rfl⟩ := hown.forms
      rw [vls_len] at hown ⊢
      have HG : Hid (RetAl w ts k (.returned (.tuple #[.slice A1 k c1, .bool true])) wr) := .inl ⟨HNO.out, A1, c1, rfl, hown⟩
      go_wp2
      go_ret2
      exact HG.out
theorem joinLost_none (t : ByteArray) (w : World) :
    Calls Tryz.prog 26 #[.string { data := #[] }, .string t] w fun e w' => e = .returned (.string t) ∧ Ext w w' := by
  go_enter Tryz.func26, Tryz.ntmps26
  go_wp2
  go_ret
  exact ⟨rfl, (by with_reducible (repeat (first | exact Ext.refl _ | apply Ext.drewN | apply Ext.drew | apply Ext.alloc | (refine Ext.set ?_ (by first | (simp; done) | (simp; omega) | omega) _) | (refine Ext.trans ?_ (by assumption)))))⟩
end Go.Proofs.YtbihbhdaenhdoaaGreat

namespace Go.Proofs.YtbihbhdaenhdoaaGreat
set_option linter.unusedVariables false
set_option linter.unusedSimpArgs false
open Go.ChangeShapes Go.WideShapes Go.ChangeAt Go.RowKit Go.Joins Go.Deep

theorem Own.base2 {w w1 w' : World} {v : Value} {ys : List Int} (h : Own w1 w' v ys) (k : Ext w w1) : Own w w' v ys := ⟨ownsRow_le h.own k.size, k.trans h.ext⟩
/-- What ApartOf hands back for a valid pattern. -/
def RetAp (w : World) (ts us : List (Int × Bool)) (n : Nat) (e : Ending) (w' : World) : Prop :=
  (NoP ts n ∧ NoP us n ∧ ∃ A c B d, e = .returned (.tuple #[.slice A n c, .slice B n d, .int .i64 0]) ∧ Own w w' (.slice A n c) (vls ts n) ∧ Own w w' (.slice B n d) (vls us n)) ∨ (¬ (NoP ts n ∧ NoP us n) ∧ e = .returned (.tuple #[.slice none 0 0, .slice none 0 0, .int .i64 10]) ∧ Ext w w')
theorem ValidPassing_is (A B : Option Addr) (n c m d : Nat) (ts us : List (Int × Bool)) (v : Bool) (hv : vpas ts us = v) (w : World) (hI : Thr w A n ts) (hJ : Thr w B m us) :
    Calls Tryz.prog 55 #[.agg #[.slice A n c, .slice B m d]] w fun e w' => e = .returned (.bool v) ∧ Ext w w' := by
  subst hv
  exact ValidPassing_any A B n c m d ts us w hI hJ
def RetVl (w : World) (ts : List (Int × Bool)) (n : Nat) (e : Ending) (w' : World) : Prop := ∃ A c, e = .returned (.slice A n c) ∧ Own w w' (.slice A n c) (vls ts n)
theorem valuesOf_n (A : Option Addr) (n c : Nat) (ts : List (Int × Bool)) (w : World) (hI : Thr w A n ts) (hn : n ≤ 1000) :
    Calls Tryz.prog 96 #[.slice A n c] w (RetVl w ts n) :=
  (valuesOf_any A n c ts w hI hn).mono fun _ _ ⟨A1, c1, h1, h2⟩ => by rw [vls_len] at h1 h2; exact ⟨A1, c1, h1, h2⟩
set_option maxHeartbeats 4000000 in
theorem implApartOf_any (A B : Option Addr) (n c d : Nat) (ts us : List (Int × Bool)) (w : World) (hI : Thr w A n ts) (hJ : Thr w B n us) (hV : vpas ts us = true) (hn : n ≤ 8) :
    Calls Tryz.prog 61 #[.agg #[.slice A n c, .slice B n d]] w (RetAp w ts us n) := by
  have HB : Hid (w.heap.size < (w.alloc (.cells #[.slice A n c, .slice B n d] 31)).heap.size) := by show _ < _; simp
  have hla := pbs_none ts n
  have hlb := pbs_none us n
  have hpa := pbs_len ts n
  have hpb := pbs_len us n
  have HLA := Lib.hid hla
  have HLB := Lib.hid hlb
  clear hla hlb
  go_enter Tryz.func61, Tryz.ntmps61
  go_wp2_with fail
  (with_reducible refine (ValidPassing_is A B n c n d ts us _ hV _ (hI.ext (by with_reducible (repeat (first | exact Ext.refl _ | apply Ext.drewN | apply Ext.drew | apply Ext.alloc | (refine Ext.set ?_ (by first | (simp; done) | (simp; omega) | omega) _) | (refine Ext.trans ?_ (by assumption)))))) (hJ.ext (by with_reducible (repeat (first | exact Ext.refl _ | apply Ext.drewN | apply Ext.drew | apply Ext.alloc | (refine Ext.set ?_ (by first | (simp; done) | (simp; omega) | omega) _) | (refine Ext.trans ?_ (by assumption))))))).mono ?_)
  rintro e w1 ⟨rfl, hx⟩
  have hE : Ext w w1 := Ext.trans (by with_reducible (repeat (first | exact Ext.refl _ | apply Ext.drewN | apply Ext.drew | apply Ext.alloc | (refine Ext.set ?_ (by first | (simp; done) | (simp; omega) | omega) _) | (refine Ext.trans ?_ (by assumption))))) hx
  have z1 : w.heap.size < w1.heap.size := by have := hx.size; have := HB.out; omega
  have b1 : w1.cell? ⟨w.heap.size, 0, none⟩ = some (.slice A n c) := hx.cell HB.out (by go_simp)
  have b2 : w1.cell? ⟨w.heap.size, 1, none⟩ = some (.slice B n d) := hx.cell HB.out (by go_simp)
  clear hx HB
  have hI1 := hI.ext hE
  have hJ1 := hJ.ext hE
  clear hI hJ
  go_wp2
  go_region_held3 (fun wz => wz.cell? ⟨w.heap.size, 0, none⟩ = some (.slice A n c) ∧ wz.cell? ⟨w.heap.size, 1, none⟩ = some (.slice B n d)) (go_keep) (first | (go_at_call 95; (with_reducible refine (passBeats_any A n c ts _ (hI1.ext (by with_reducible (repeat (first | exact Ext.refl _ | apply Ext.drewN | apply Ext.drew | apply Ext.alloc | (refine Ext.set ?_ (by first | (simp; done) | (simp; omega) | omega) _) | (refine Ext.trans ?_ (by assumption)))))) (by omega)).mono ?_); rintro e w3 ⟨Pw3, ew3, rfl, hOw3⟩; have hxw3 := hOw3.ext; have hzw3 := hxw3.size; (try simp at hzw3); have qw30 : w.heap.size < w3.heap.size := Nat.lt_of_lt_of_le (by first | (simp; done) | (simp; omega) | omega) hxw3.size; have cw300 : w3.cell? ⟨w.heap.size, 0, none⟩ = some (.slice A n c) := hxw3.cell (by first | (simp; done) | (simp; omega) | omega) (by go_simp); have cw301 : w3.cell? ⟨w.heap.size, 1, none⟩ = some (.slice B n d) := hxw3.cell (by first | (simp; done) | (simp; omega) | omega) (by go_simp)) | (go_at_call 95; (with_reducible refine (passBeats_any B n d us _ (hJ1.ext (by with_reducible (repeat (first | exact Ext.refl _ | apply Ext.drewN | apply Ext.drew | apply Ext.alloc | (refine Ext.set ?_ (by first | (simp; done) | (simp; omega) | omega) _) | (refine Ext.trans ?_ (by assumption)))))) (by omega)).mono ?_); rintro e w4 ⟨Pw4, ew4, rfl, hOw4⟩; have hxw4 := hOw4.ext; have hzw4 := hxw4.size; (try simp at hzw4); have qw40 : w.heap.size < w4.heap.size := Nat.lt_of_lt_of_le (by first | (simp; done) | (simp; omega) | omega) hxw4.size; have cw400 : w4.cell? ⟨w.heap.size, 0, none⟩ = some (.slice A n c) := hxw4.cell (by first | (simp; done) | (simp; omega) | omega) (by go_simp); have cw401 : w4.cell? ⟨w.heap.size, 1, none⟩ = some (.slice B n d) := hxw4.cell (by first | (simp; done) | (simp; omega) | omega) (by go_simp)))
  have hE4 : Ext w1 w4 := Ext.trans (Ext.trans (by with_reducible (repeat (first | exact Ext.refl _ | apply Ext.drewN | apply Ext.drew | apply Ext.alloc | (refine Ext.set ?_ (by first | (simp; done) | (simp; omega) | omega) _) | (refine Ext.trans ?_ (by assumption))))) hxw3) hxw4
  have hE5 := hE.trans hE4
  have z4 : w.heap.size < w4.heap.size := by omega
  clear hOw3 hOw4 hxw3 hxw4
  by_cases hno : NoP ts n ∧ NoP us n
  · have ha : (pbs ts n).length = 0 := HLA.out.2 hno.1
    have hb : (pbs us n).length = 0 := HLB.out.2 hno.2
    rw [ha, hb] at *
    have hI4 := hI1.ext hE4
    have hJ4 := hJ1.ext hE4
    have HNO := Lib.hid hno
    clear hno hI1 hJ1
    go_wp2
    go_region_held3 (fun wz => wz.cell? ⟨w.heap.size, 0, none⟩ = some (.slice A n c) ∧ wz.cell? ⟨w.heap.size, 1, none⟩ = some (.slice B n d)) (go_keep) (first | (go_at_call 96; (with_reducible refine (valuesOf_n A n c ts _ (hI4.ext (by with_reducible (repeat (first | exact Ext.refl _ | apply Ext.drewN | apply Ext.drew | apply Ext.alloc | (refine Ext.set ?_ (by first | (simp; done) | (simp; omega) | omega) _) | (refine Ext.trans ?_ (by assumption)))))) (by omega)).mono ?_); rintro e w5 ⟨Pw5, ew5, rfl, hOw5⟩; have hxw5 := hOw5.ext; have hzw5 := hxw5.size; (try simp at hzw5); have qw50 : w.heap.size < w5.heap.size := Nat.lt_of_lt_of_le (by first | (simp; done) | (simp; omega) | omega) hxw5.size; have cw500 : w5.cell? ⟨w.heap.size, 0, none⟩ = some (.slice A n c) := hxw5.cell (by first | (simp; done) | (simp; omega) | omega) (by go_simp); have cw501 : w5.cell? ⟨w.heap.size, 1, none⟩ = some (.slice B n d) := hxw5.cell (by first | (simp; done) | (simp; omega) | omega) (by go_simp)) | (go_at_call 96; (with_reducible refine (valuesOf_n B n d us _ (hJ4.ext (by with_reducible (repeat (first | exact Ext.refl _ | apply Ext.drewN | apply Ext.drew | apply Ext.alloc | (refine Ext.set ?_ (by first | (simp; done) | (simp; omega) | omega) _) | (refine Ext.trans ?_ (by assumption)))))) (by omega)).mono ?_); rintro e w6 ⟨Pw6, ew6, rfl, hOw6⟩; have hxw6 := hOw6.ext; have hzw6 := hxw6.size; (try simp at hzw6); have qw60 : w.heap.size < w6.heap.size := Nat.lt_of_lt_of_le (by first | (simp; done) | (simp; omega) | omega) hxw6.size; have cw600 : w6.cell? ⟨w.heap.size, 0, none⟩ = some (.slice A n c) := hxw6.cell (by first | (simp; done) | (simp; omega) | omega) (by go_simp); have cw601 : w6.cell? ⟨w.heap.size, 1, none⟩ = some (.slice B n d) := hxw6.cell (by first | (simp; done) | (simp; omega) | omega) (by go_simp)))
    have hE6 : Ext w4 w5 := Ext.trans (by with_reducible (repeat (first | exact Ext.refl _ | apply Ext.drewN | apply Ext.drew | apply Ext.alloc | (refine Ext.set ?_ (by first | (simp; done) | (simp; omega) | omega) _) | (refine Ext.trans ?_ (by assumption))))) hxw5
    have HT : Hid (RetAp w ts us n (.returned (.tuple #[.slice Pw5 n ew5, .slice Pw6 n ew6, .int .i64 0])) w6) :=
      .inl ⟨HNO.out.1, HNO.out.2, Pw5, ew5, Pw6, ew6, rfl, (hOw5.base2 (Ext.trans hE5 (by with_reducible (repeat (first | exact Ext.refl _ | apply Ext.drewN | apply Ext.drew | apply Ext.alloc | (refine Ext.set ?_ (by first | (simp; done) | (simp; omega) | omega) _) | (refine Ext.trans ?_ (by assumption))))))).trans (Ext.trans (by with_reducible (repeat (first | exact Ext.refl _ | apply Ext.drewN | apply Ext.drew | apply Ext.alloc | (refine Ext.set ?_ (by first | (simp; done) | (simp; omega) | omega) _) | (refine Ext.trans ?_ (by assumption))))) hxw6), hOw6.base2 (Ext.trans (Ext.trans hE5 hE6) (by with_reducible (repeat (first | exact Ext.refl _ | apply Ext.drewN | apply Ext.drew | apply Ext.alloc | (refine Ext.set ?_ (by first | (simp; done) | (simp; omega) | omega) _) | (refine Ext.trans ?_ (by assumption))))))⟩
    clear hOw5 hOw6
    go_wp2
    exact bodyPost_ret (v := .tuple #[.slice Pw5 n ew5, .slice Pw6 n ew6, .int .i64 0]) (by simp [results, Tryz.results61, go_sem, *]) rfl HT.out
  · have hs : 0 < (pbs ts n).length + (pbs us n).length := by
      rcases Nat.eq_zero_or_pos ((pbs ts n).length + (pbs us n).length) with h | h
      · exact absurd ⟨HLA.out.1 (by omega), HLB.out.1 (by omega)⟩ hno
      · exact h
    have HT : Hid (RetAp w ts us n (.returned (.tuple #[.slice none 0 0, .slice none 0 0, .int .i64 10])) w4) := .inr ⟨hno, rfl, hE5⟩
    have hsi : (0 : Int) < (((pbs ts n).length + (pbs us n).length : Nat) : Int) := by omega
    generalize (pbs ts n).length = x at *
    generalize (pbs us n).length = y at *
    have hw : IntKind.i64.wrap ((x : Int) + y) = (x : Int) + y := IntWalk.i64_in _ (by omega)
    have hsi2 : (0 : Int) < (x : Int) + y := by omega
    rw [hw]
    go_wp2
    exact bodyPost_ret (v := .tuple #[.slice none 0 0, .slice none 0 0, .int .i64 10]) (by simp [results, Tryz.results61, go_sem, *]) rfl HT.out
theorem l06Ok_is (g : Nat) (A B : Option Addr) (n c m d : Nat) (ts us : List (Int × Bool)) (v : Bool) (hv : vpas ts us = v) (w : World) (hb : PBox w g A n c B m d) (hI : Thr w A n ts) (hJ : Thr w B m us) :
    Calls Tryz.prog 69 #[.pointer (some ⟨g, 0, none⟩)] w fun e w' => e = .returned (.bool v) ∧ Ext w w' := by
  subst hv
  exact l06Ok_any g A B n c m d ts us w hb hI hJ
set_option maxHeartbeats 4000000 in
theorem specApartOf_any (A B : Option Addr) (n c d : Nat) (ts us : List (Int × Bool)) (w : World) (hI : Thr w A n ts) (hJ : Thr w B n us) (hV : vpas ts us = true) (hn : n ≤ 8) :
    Calls Tryz.prog 75 #[.agg #[.slice A n c, .slice B n d]] w (RetAp w ts us n) := by
  have HB : Hid (w.heap.size < (w.alloc (.cells #[.slice A n c, .slice B n d] 31)).heap.size) := by show _ < _; simp
  have HM : Hid (PBox (w.alloc (.cells #[.slice A n c, .slice B n d] 31)) w.heap.size A n c B n d) := ⟨HB.out, by go_simp, by go_simp⟩
  go_enter Tryz.func75, Tryz.ntmps75
  go_wp2_with fail
  (with_reducible refine (l06Ok_is w.heap.size A B n c n d ts us _ hV _ HM.out (hI.ext (by with_reducible (repeat (first | exact Ext.refl _ | apply Ext.drewN | apply Ext.drew | apply Ext.alloc | (refine Ext.set ?_ (by first | (simp; done) | (simp; omega) | omega) _) | (refine Ext.trans ?_ (by assumption)))))) (hJ.ext (by with_reducible (repeat (first | exact Ext.refl _ | apply Ext.drewN | apply Ext.drew | apply Ext.alloc | (refine Ext.set ?_ (by first | (simp; done) | (simp; omega) | omega) _) | (refine Ext.trans ?_ (by assumption))))))).mono ?_)
  rintro e w1 ⟨rfl, hx⟩
  have hE : Ext w w1 := Ext.trans (by with_reducible (repeat (first | exact Ext.refl _ | apply Ext.drewN | apply Ext.drew | apply Ext.alloc | (refine Ext.set ?_ (by first | (simp; done) | (simp; omega) | omega) _) | (refine Ext.trans ?_ (by assumption))))) hx
  have z1 : w.heap.size < w1.heap.size := by have := hx.size; have := HB.out; omega
  have b1 : w1.cell? ⟨w.heap.size, 0, none⟩ = some (.slice A n c) := hx.cell HB.out (by go_simp)
  have b2 : w1.cell? ⟨w.heap.size, 1, none⟩ = some (.slice B n d) := hx.cell HB.out (by go_simp)
  clear hx HB HM
  have hI1 := hI.ext hE
  have hJ1 := hJ.ext hE
  clear hI hJ
  go_wp2_with fail
  (with_reducible refine (l06Alone_any A n c ts _ hI1 (by omega)).mono ?_)
  intro e w2 hr2
  have HX : Hid (Ext w1 w2) := by
    rcases hr2 with ⟨_, _, _, _, h⟩ | ⟨_, _, h⟩
    · exact h.ext
    · exact h
  have hx2 := HX.out
  have z2 : w.heap.size < w2.heap.size := by have := hx2.size; omega
  have c1 := hx2.cell z1 b1
  have c2 := hx2.cell z1 b2
  have hE2 := hE.trans hx2
  have hJ2 := hJ1.ext hx2
  clear HX b1 b2 hJ1 hI1
  rcases hr2 with ⟨h1, A1, c1', rfl, hO1⟩ | ⟨h1, rfl, _⟩
  · have H1 := Lib.hid h1
    clear h1
    go_wp2_with fail
    (with_reducible refine (l06Alone_any B n d us _ hJ2 (by omega)).mono ?_)
    rintro e w3 (⟨h2, B1, d1', rfl, hO2⟩ | ⟨h2, rfl, hx3⟩)
    · have HT : Hid (RetAp w ts us n (.returned (.tuple #[.slice A1 n c1', .slice B1 n d1', .int .i64 0])) w3) := .inl ⟨H1.out, h2, A1, c1', B1, d1', rfl, (hO1.base2 hE).trans hO2.ext, hO2.base2 hE2⟩
      clear hO1 hO2 h2
      go_wp2
      exact bodyPost_ret (v := .tuple #[.slice A1 n c1', .slice B1 n d1', .int .i64 0]) (by simp [results, Tryz.results75, go_sem, *]) rfl HT.out
    · have HT : Hid (RetAp w ts us n (.returned (.tuple #[.slice none 0 0, .slice none 0 0, .int .i64 10])) w3) := .inr ⟨fun h => h2 h.2, rfl, hE2.trans hx3⟩
      clear hO1 h2
      go_wp2
      exact bodyPost_ret (v := .tuple #[.slice none 0 0, .slice none 0 0, .int .i64 10]) (by simp [results, Tryz.results75, go_sem, *]) rfl HT.out
  · have H1 := Lib.hid h1
    clear h1
    go_wp2_with fail
    (with_reducible refine (l06Alone_any B n d us _ hJ2 (by omega)).mono ?_)
    rintro e w3 (⟨h2, B1, d1', rfl, hO2⟩ | ⟨h2, rfl, hx3⟩)
    · have HT : Hid (RetAp w ts us n (.returned (.tuple #[.slice none 0 0, .slice none 0 0, .int .i64 10])) w3) := .inr ⟨fun h => H1.out h.1, rfl, hE2.trans hO2.ext⟩
      clear hO2 h2
      go_wp2
      exact bodyPost_ret (v := .tuple #[.slice none 0 0, .slice none 0 0, .int .i64 10]) (by simp [results, Tryz.results75, go_sem, *]) rfl HT.out
    · have HT : Hid (RetAp w ts us n (.returned (.tuple #[.slice none 0 0, .slice none 0 0, .int .i64 10])) w3) := .inr ⟨fun h => H1.out h.1, rfl, hE2.trans hx3⟩
      clear h2
      go_wp2
      exact bodyPost_ret (v := .tuple #[.slice none 0 0, .slice none 0 0, .int .i64 10]) (by simp [results, Tryz.results75, go_sem, *]) rfl HT.out
end Go.Proofs.YtbihbhdaenhdoaaGreat

namespace Go.Proofs.YtbihbhdaenhdoaaGreat
set_option linter.unusedVariables false
set_option linter.unusedSimpArgs false
open Go.ChangeShapes Go.WideShapes Go.ChangeAt Go.RowKit Go.Joins Go.Deep

theorem sld_get {ts : List (Int × Bool)} {m i : Nat} (h : i < m) : (sld ts m)[i]?.getD 0 = sdv (tv ts i) (tp ts i) i := by simp [sld, h]
theorem mod_two_mul (n a h : Nat) (hn : 0 < n) (hh : h < 2) : (2 * a + h) % (2 * n) = a % n * 2 + h := by
  have e1 : a = n * (a / n) + a % n := (Nat.div_add_mod a n).symm
  have e2 := Nat.mod_lt a hn
  have e3 : 2 * a + h = (a % n * 2 + h) + 2 * n * (a / n) := by
    have : 2 * a = 2 * (n * (a / n)) + 2 * (a % n) := by omega
    rw [this, Nat.mul_assoc]
    omega
  rw [e3, Nat.add_mul_mod_self_left, Nat.mod_eq_of_lt (by omega)]
/-- The slid throws land as the throws do. -/
theorem sld_lnd {ts : List (Int × Bool)} {n i : Nat} (hi : i < 2 * n) (hs : sok (tv ts i) (tp ts i) = true) : lnd (sld ts (2 * n)) i = (sl n ts i : Int) := by
  obtain ⟨s0, s1, s2, s3⟩ := sok_bd hs
  have hn : 0 < n := by omega
  unfold lnd
  rw [sld_len, sld_get hi]
  obtain ⟨u, hu⟩ : ∃ u : Nat, tv ts i = 2 * (u : Int) := ⟨((tv ts i) / 2).toNat, by omega⟩
  have hsl : sl n ts i = (i / 2 + u) % n * 2 + (if tp ts i then 1 - i % 2 else i % 2) := by
    unfold sl
    rw [hu, show (2 * (u : Int)).toNat / 2 = u by omega]
  rw [hsl]
  have key : ∀ (x h : Nat), h < 2 → (i : Int) + sdv (tv ts i) (tp ts i) i = ((2 * (i / 2 + u) + h : Nat) : Int) → (if tp ts i then 1 - i % 2 else i % 2) = h → ((i : Int) + sdv (tv ts i) (tp ts i) i) % ((2 * n : Nat) : Int) = (((i / 2 + u) % n * 2 + (if tp ts i then 1 - i % 2 else i % 2) : Nat) : Int) := by
    intro _ h hh e1 e2
    rw [e1, e2, ← Int.natCast_emod, mod_two_mul n _ h hn hh]
  rcases Nat.mod_two_eq_zero_or_one i with hm | hm
  · cases hp : tp ts i
    · rw [hp] at key
      refine key 0 0 (by omega) ?_ (by simp [hm])
      simp [sdv, hu]
      omega
    · rw [hp] at key
      refine key 0 1 (by omega) ?_ (by simp [hm])
      simp [sdv, hu, hm]
      omega
  · cases hp : tp ts i
    · rw [hp] at key
      refine key 0 1 (by omega) ?_ (by simp [hm])
      simp [sdv, hu]
      omega
    · rw [hp] at key
      refine key 0 0 (by omega) ?_ (by simp [hm])
      simp [sdv, hu, hm]
      omega
theorem vsyn_sld {ts : List (Int × Bool)} {n : Nat} (hl : ts.length = 2 * n) (h : vsyn ts = true) : vpat (sld ts (2 * n)) = true := by
  unfold vsyn at h
  rw [Bool.and_eq_true] at h
  obtain ⟨h1, h2⟩ := h
  obtain ⟨n1, n6, hs⟩ := slis_iff hl h1
  unfold vpat
  rw [Bool.and_eq_true]
  constructor
  · rw [thr_iff, sld_len]
    refine ⟨fun i hi => ?_, by omega, by omega⟩
    rw [sld_get hi]
    obtain ⟨s0, s1, s2, s3⟩ := sok_bd (hs i hi)
    unfold sdv
    cases hp : tp ts i
    · simp; omega
    · have : tv ts i ≠ 0 := fun e => by have := s3 e; rw [hp] at this; cases this
      simp
      split <;> omega
  · refine ncl_yes ?_
    rw [sld_len]
    unfold scl at h2
    rw [decide_eq_true_iff, hl, show 2 * n / 2 = n by omega] at h2
    intro j hj i hi e
    rw [sld_lnd hj (hs j hj), sld_lnd (by omega) (hs i (by omega))] at e
    exact h2 j hj i hi (by omega)
theorem sld_bd {ts : List (Int × Bool)} {n : Nat} (hl : ts.length = 2 * n) (h : vsyn ts = true) : ∀ y ∈ sld ts (2 * n), -9223372036854775808 ≤ y ∧ y ≤ 9223372036854775807 := fun y hy => by
  have hv := vsyn_sld hl h
  unfold vpat at hv
  rw [Bool.and_eq_true, thr_iff] at hv
  obtain ⟨i, hi, e⟩ := List.getElem_of_mem hy
  have := hv.1.1 i hi
  rw [List.getElem?_eq_getElem hi] at this
  simp [e] at this
  omega
end Go.Proofs.YtbihbhdaenhdoaaGreat

namespace Go.Proofs.YtbihbhdaenhdoaaGreat
set_option linter.unusedVariables false
set_option linter.unusedSimpArgs false
open Go.ChangeShapes Go.WideShapes Go.ChangeAt Go.RowKit Go.Joins Go.Deep

theorem vls_get {ts : List (Int × Bool)} {m i : Nat} (h : i < m) : (vls ts m)[i]?.getD 0 = tv ts i := by simp [vls, h]
theorem ljs_vls {b : Bool} {n : Nat} {ts : List (Int × Bool)} (hn1 : 1 ≤ n) (hn8 : n ≤ 8) (hb : ∀ i, i < n → 0 ≤ tv ts i ∧ tv ts i ≤ 15) (h0 : NoP ts n) (hd : (ljs b n ts n).Nodup) : vpat (vls ts n) = true := by
  unfold vpat
  rw [Bool.and_eq_true]
  constructor
  · rw [thr_iff, vls_len]
    exact ⟨fun i hi => by rw [vls_get hi]; exact hb i hi, by omega, by omega⟩
  · refine ncl_yes ?_
    rw [vls_len]
    intro j hj i hi e
    have hlen : (ljs b n ts n).length = n := by simp [ljs]
    have h3 := List.pairwise_iff_getElem.1 hd i j (by omega) (by omega) hi
    simp only [ljs, List.getElem_map, List.getElem_range] at h3
    have key : ∀ i, i < n → lnd (vls ts n) i = (((i + (tv ts i).toNat) % n : Nat) : Int) := fun i hi => by
      have := hb i hi
      unfold lnd
      rw [vls_len, vls_get hi, Int.natCast_emod, show ((i + (tv ts i).toNat : Nat) : Int) = (i : Int) + tv ts i by omega]
    rw [key i (by omega), key j hj] at e
    refine h3 ?_
    unfold lj
    rw [h0 i (by omega), h0 j hj]
    have e' : (i + (tv ts i).toNat) % n = (j + (tv ts j).toNat) % n := by omega
    rw [e']
theorem vpas_vls {ts us : List (Int × Bool)} {n : Nat} (hl : ts.length = n) (hu : us.length = n) (h : vpas ts us = true) (h0 : NoP ts n) (h1 : NoP us n) : vpat (vls ts n) = true ∧ vpat (vls us n) = true := by
  unfold vpas at h
  rw [Bool.and_eq_true, decide_eq_true_iff, hl] at h
  obtain ⟨hf, hd⟩ := h
  unfold fpas at hf
  simp only [Bool.and_eq_true, btw_iff] at hf
  obtain ⟨⟨⟨hb, _⟩, ha⟩, hc⟩ := hf
  unfold allp at ha hc
  rw [decide_eq_true_iff] at ha hc
  rw [hl] at ha hb
  rw [hu] at hc
  have pb : ∀ (v : Int) (p : Bool), pok v p = true → 0 ≤ v ∧ v ≤ 15 := fun v p h => by
    unfold pok at h
    rw [Bool.and_eq_true, btw_iff] at h
    exact h.1
  have hd2 := List.nodup_append.1 hd
  exact ⟨ljs_vls (by omega) (by omega) (fun i hi => pb _ _ (ha i hi)) h0 hd2.1, ljs_vls (by omega) (by omega) (fun i hi => pb _ _ (hc i hi)) h1 hd2.2.1⟩
end Go.Proofs.YtbihbhdaenhdoaaGreat

namespace Go.Proofs.YtbihbhdaenhdoaaGreat
set_option linter.unusedVariables false
set_option linter.unusedSimpArgs false
open Go.ChangeShapes Go.WideShapes Go.ChangeAt Go.RowKit Go.Joins Go.Deep

def tz : ByteArray := { data := #[] }
def tT : ByteArray := { data := #[116, 105, 109, 105, 110, 103] }
def tJ : ByteArray := { data := #[106, 117, 103, 103, 108, 101, 114] }
/-- The throws of a notation, what is lost, and a code. -/
def sgle (D : ND) : List Int × ByteArray × Int :=
  if D.k = 2 then (if One D.m D.m.length then (sgl D.m D.m.length, tz, 0) else ([], tz, 10))
  else if D.k = 3 then (sld D.s D.s.length, tT, 0)
  else if D.k = 4 then (if NoP D.a D.a.length ∧ NoP D.b D.a.length then (vls D.a D.a.length, tJ, if vls D.a D.a.length = vls D.b D.a.length then 0 else 10) else ([], tJ, 10))
  else (D.p, tz, 0)
theorem vnt_kind {D : ND} (h : vnt D = true) : (D.k = 1 ∧ vpat D.p = true) ∨ (D.k = 2 ∧ vmul D.m = true) ∨ (D.k = 3 ∧ vsyn D.s = true) ∨ (D.k = 4 ∧ vpas D.a D.b = true) := by
  unfold vnt at h
  rw [Bool.and_eq_true] at h
  have h2 := h.2
  split at h2
  · exact .inl ⟨by assumption, h2⟩
  · split at h2
    · exact .inr (.inl ⟨by assumption, h2⟩)
    · split at h2
      · exact .inr (.inr (.inl ⟨by assumption, h2⟩))
      · split at h2
        · exact .inr (.inr (.inr ⟨by assumption, h2⟩))
        · cases h2
theorem sgle_vpat {D : ND} (h : vnt D = true) (hl : D.s.length = 2 * (D.s.length / 2)) (hc : (sgle D).2.2 = 0) : vpat (sgle D).1 = true := by
  rcases vnt_kind h with ⟨hk, hv⟩ | ⟨hk, hv⟩ | ⟨hk, hv⟩ | ⟨hk, hv⟩
  · unfold sgle
    rw [if_neg (by omega), if_neg (by omega), if_neg (by omega)]
    exact hv
  · unfold sgle at hc ⊢
    rw [if_pos hk] at hc ⊢
    by_cases ho : One D.m D.m.length
    · rw [if_pos ho]
      exact vmul_sgl rfl hv ho
    · rw [if_neg ho] at hc
      cases hc
  · unfold sgle
    rw [if_neg (by omega), if_pos hk, hl]
    exact vsyn_sld hl hv
  · unfold sgle at hc ⊢
    rw [if_neg (by omega), if_neg (by omega), if_pos hk] at hc ⊢
    by_cases ho : NoP D.a D.a.length ∧ NoP D.b D.a.length
    · rw [if_pos ho]
      exact (vpas_vls rfl (vpas_len hv).2.2 hv ho.1 ho.2).1
    · rw [if_neg ho] at hc
      cases hc
/-- What single hands back. -/
def RetSl (w : World) (r : List Int × ByteArray × Int) (e : Ending) (w' : World) : Prop :=
  (r.2.2 = 0 ∧ ∃ A c, e = .returned (.tuple #[.slice A r.1.length c, .string r.2.1, .int .i64 0]) ∧ Own w w' (.slice A r.1.length c) r.1) ∨ (r.2.2 ≠ 0 ∧ (∃ v l, e = .returned (.tuple #[v, .string l, .int .i64 r.2.2])) ∧ Ext w w')
theorem vls_bd {ts : List (Int × Bool)} {n : Nat} (h : ∀ i, i < n → 0 ≤ tv ts i ∧ tv ts i ≤ 15) : ∀ y ∈ vls ts n, -9223372036854775808 ≤ y ∧ y ≤ 9223372036854775807 := fun y hy => by
  simp only [vls, List.mem_map, List.mem_range] at hy
  obtain ⟨i, hi, rfl⟩ := hy
  have := h i hi
  omega
set_option maxHeartbeats 8000000 in
theorem single_any (V : NV) (D : ND) (w : World) (hI : NtR w V D) (hV : vnt D = true) :
    Calls Tryz.prog 23 #[V.val] w (RetSl w (sgle D)) := by
  obtain ⟨k, A, na, ca, B, nb, cb, S, ns, cs, P, np, cp, Q, nq, cq⟩ := V
  obtain ⟨kk, dp, dm, ds, da, db⟩ := D
  obtain ⟨hk, hp, hm, hs, ha, hb⟩ := hI
  unfold NV.val
  dsimp only at *
  subst hk
  have hls := hs.len
  have hlp := hp.len
  have hlm := hm.len
  have hla := ha.len
  have hlb := hb.len
  have hkd := vnt_kind hV
  dsimp only at hkd
  clear hV
  obtain ⟨r, hr⟩ : ∃ r, sgle ⟨k, dp, dm, ds, da, db⟩ = r := ⟨_, rfl⟩
  rw [hr]
  rcases hkd with ⟨rfl, hv⟩ | ⟨rfl, hv⟩ | ⟨rfl, hv⟩ | ⟨rfl, hv⟩
  · have HS : Hid (r = (dp, tz, 0)) := hr.symm
    clear hr
    have hn12 := (vpat_len hv).2
    go_enter Tryz.func23, Tryz.ntmps23
    go_wp2_with fail
    (with_reducible refine (copyNumbers_any A na ca dp _ (hp.ext (by with_reducible (repeat (first | exact Ext.refl _ | apply Ext.drewN | apply Ext.drew | apply Ext.alloc | (refine Ext.set ?_ (by first | (simp; done) | (simp; omega) | omega) _) | (refine Ext.trans ?_ (by assumption)))))) (by omega)).mono ?_)
    rintro e w1 ⟨A1, c1', rfl, hO⟩
    have HT : Hid (RetSl w r (.returned (.tuple #[.slice A1 na c1', .string tz, .int .i64 0])) w1) := by show RetSl _ _ _ _; rw [HS.out]; exact .inl ⟨rfl, A1, c1', by rw [hlp], by show Own _ _ (.slice A1 dp.length c1') dp; rw [hlp]; exact ⟨by rw [hlp]; exact ownsRow_le hO.own (Ext.size (by with_reducible (repeat (first | exact Ext.refl _ | apply Ext.drewN | apply Ext.drew | apply Ext.alloc | (refine Ext.set ?_ (by first | (simp; done) | (simp; omega) | omega) _) | (refine Ext.trans ?_ (by assumption)))))), Ext.trans (by with_reducible (repeat (first | exact Ext.refl _ | apply Ext.drewN | apply Ext.drew | apply Ext.alloc | (refine Ext.set ?_ (by first | (simp; done) | (simp; omega) | omega) _) | (refine Ext.trans ?_ (by assumption))))) hO.ext⟩⟩
    clear hO
    go_wp2
    go_ret3
    exact HT.out
  · have HS : Hid (r = if One dm nb then (sgl dm nb, tz, 0) else ([], tz, 10)) := by show _ = _; rw [← hr, ← hlm]; rfl
    clear hr
    go_enter Tryz.func23, Tryz.ntmps23
    go_wp2_with fail
    (with_reducible refine (implSingleOf_any B nb cb dm _ (hm.ext (by with_reducible (repeat (first | exact Ext.refl _ | apply Ext.drewN | apply Ext.drew | apply Ext.alloc | (refine Ext.set ?_ (by first | (simp; done) | (simp; omega) | omega) _) | (refine Ext.trans ?_ (by assumption)))))) hv).mono ?_)
    rintro e w1 (⟨h1, A1, c1', rfl, hO⟩ | ⟨h1, rfl, hx⟩)
    · have HT : Hid (RetSl w r (.returned (.tuple #[.slice A1 nb c1', .string tz, .int .i64 0])) w1) := by show RetSl _ _ _ _; rw [HS.out, if_pos h1]; exact .inl ⟨rfl, A1, c1', by rw [sgl_len], by show Own _ _ (.slice A1 (sgl dm nb).length c1') _; rw [sgl_len]; exact hO.base (by with_reducible (repeat (first | exact Ext.refl _ | apply Ext.drewN | apply Ext.drew | apply Ext.alloc | (refine Ext.set ?_ (by first | (simp; done) | (simp; omega) | omega) _) | (refine Ext.trans ?_ (by assumption)))))⟩
      clear hO h1
      go_wp2
      go_ret3
      exact HT.out
    · have HT : Hid (RetSl w r (.returned (.tuple #[.slice none 0 0, .string tz, .int .i64 10])) w1) := by show RetSl _ _ _ _; rw [HS.out, if_neg h1]; exact .inr ⟨(by decide), ⟨_, _, rfl⟩, Ext.trans (by with_reducible (repeat (first | exact Ext.refl _ | apply Ext.drewN | apply Ext.drew | apply Ext.alloc | (refine Ext.set ?_ (by first | (simp; done) | (simp; omega) | omega) _) | (refine Ext.trans ?_ (by assumption))))) hx⟩
      clear h1 hx
      go_wp2
      go_ret3
      exact HT.out
  · have HS : Hid (r = (sld ds (2 * ns), tT, 0)) := by show _ = _; rw [← hr, ← hls]; rfl
    clear hr
    go_enter Tryz.func23, Tryz.ntmps23
    go_wp2_with fail
    (with_reducible refine (slid_any S ns cs ds _ (hs.ext (by with_reducible (repeat (first | exact Ext.refl _ | apply Ext.drewN | apply Ext.drew | apply Ext.alloc | (refine Ext.set ?_ (by first | (simp; done) | (simp; omega) | omega) _) | (refine Ext.trans ?_ (by assumption)))))) (by unfold vsyn at hv; rw [Bool.and_eq_true] at hv; exact hv.1)).mono ?_)
    rintro e w1 ⟨A1, c1', rfl, hO⟩
    have HT : Hid (RetSl w r (.returned (.tuple #[.slice A1 (sld ds (2 * ns)).length c1', .string tT, .int .i64 0])) w1) := by show RetSl _ _ _ _; rw [HS.out]; exact .inl ⟨rfl, A1, c1', rfl, hO.base (by with_reducible (repeat (first | exact Ext.refl _ | apply Ext.drewN | apply Ext.drew | apply Ext.alloc | (refine Ext.set ?_ (by first | (simp; done) | (simp; omega) | omega) _) | (refine Ext.trans ?_ (by assumption)))))⟩
    clear hO
    generalize (sld ds (2 * ns)).length = z at *
    go_wp2
    go_ret3
    exact HT.out
  · obtain ⟨h81, h88, h8e⟩ := vpas_len hv
    obtain rfl : nq = np := by omega
    rw [hla] at h81 h88
    have HS : Hid (r = if NoP da nq ∧ NoP db nq then (vls da nq, tJ, if vls da nq = vls db nq then 0 else 10) else ([], tJ, 10)) := by show _ = _; rw [← hr, ← hla]; rfl
    clear hr
    have hfp := fpas_parts (show fpas da db = true by unfold vpas at hv; rw [Bool.and_eq_true] at hv; exact hv.1)
    have HBA : Hid (∀ y ∈ vls da nq, -9223372036854775808 ≤ y ∧ y ≤ 9223372036854775807) := vls_bd (fun i hi => hfp.2.2.2.1 i (by omega))
    have HBB : Hid (∀ y ∈ vls db nq, -9223372036854775808 ≤ y ∧ y ≤ 9223372036854775807) := vls_bd (fun i hi => hfp.2.2.2.2 i (by omega))
    clear hfp
    go_enter Tryz.func23, Tryz.ntmps23
    go_wp2_with fail
    (with_reducible refine (implApartOf_any P Q nq cp cq da db _ (ha.ext (by with_reducible (repeat (first | exact Ext.refl _ | apply Ext.drewN | apply Ext.drew | apply Ext.alloc | (refine Ext.set ?_ (by first | (simp; done) | (simp; omega) | omega) _) | (refine Ext.trans ?_ (by assumption)))))) (hb.ext (by with_reducible (repeat (first | exact Ext.refl _ | apply Ext.drewN | apply Ext.drew | apply Ext.alloc | (refine Ext.set ?_ (by first | (simp; done) | (simp; omega) | omega) _) | (refine Ext.trans ?_ (by assumption)))))) hv h88).mono ?_)
    rintro e w1 (⟨h1, h2, A1, c1', B1, d1', rfl, hO, hO2⟩ | ⟨h1, rfl, hx⟩)
    · have HQ : Hid (r = (vls da nq, tJ, if vls da nq = vls db nq then 0 else 10)) := by show _ = _; rw [HS.out, if_pos ⟨h1, h2⟩]
      have hIa := hO.ints (vls_len _ _) (by omega) HBA.out
      have hIb := hO2.ints (vls_len _ _) (by omega) HBB.out
      have hE1 : Ext w w1 := Ext.trans (by with_reducible (repeat (first | exact Ext.refl _ | apply Ext.drewN | apply Ext.drew | apply Ext.alloc | (refine Ext.set ?_ (by first | (simp; done) | (simp; omega) | omega) _) | (refine Ext.trans ?_ (by assumption))))) hO.ext
      have HOW := Lib.hid (hO.base (show Ext w _ from (by with_reducible (repeat (first | exact Ext.refl _ | apply Ext.drewN | apply Ext.drew | apply Ext.alloc | (refine Ext.set ?_ (by first | (simp; done) | (simp; omega) | omega) _) | (refine Ext.trans ?_ (by assumption)))))))
      clear hO hO2 h1 h2
      by_cases heq : vls da nq = vls db nq
      · have hd : decide (vls da nq = vls db nq) = true := decide_eq_true heq
        have HT : Hid (∀ q, RetSl w r (.returned (.tuple #[.slice A1 nq c1', .string tJ, .int .i64 0])) (w1.drewN q)) := fun q => by rw [HQ.out]; exact .inl ⟨if_pos heq, A1, c1', by rw [vls_len], by show Own _ _ (.slice A1 (vls da nq).length c1') _; rw [vls_len]; exact HOW.out.trans ((Ext.refl _).drewN q)⟩
        clear heq
        go_wp2_with fail
        (with_reducible refine (sameNumbers_is A1 B1 nq nq c1' d1' _ _ _ hIa hIb _ hd).mono ?_)
        rintro e w2 ⟨rfl, q, rfl⟩
        generalize vls da nq = xs at *
        generalize vls db nq = ys at *
        go_wp2
        go_ret3
        exact HT.out q
      · have hd : decide (vls da nq = vls db nq) = false := decide_eq_false heq
        have HT : Hid (∀ q, RetSl w r (.returned (.tuple #[.slice A1 nq c1', .string tJ, .int .i64 10])) (w1.drewN q)) := fun q => by rw [HQ.out]; exact .inr ⟨by rw [if_neg heq]; show (10 : Int) ≠ 0; decide, ⟨_, _, by rw [if_neg heq]⟩, hE1.drewN q⟩
        clear heq
        go_wp2_with fail
        (with_reducible refine (sameNumbers_is A1 B1 nq nq c1' d1' _ _ _ hIa hIb _ hd).mono ?_)
        rintro e w2 ⟨rfl, q, rfl⟩
        generalize vls da nq = xs at *
        generalize vls db nq = ys at *
        go_wp2
        go_ret3
        exact HT.out q
    · have HT : Hid (RetSl w r (.returned (.tuple #[.slice none 0 0, .string tJ, .int .i64 10])) w1) := by show RetSl _ _ _ _; rw [HS.out, if_neg h1]; exact .inr ⟨(by decide), ⟨_, _, rfl⟩, Ext.trans (by with_reducible (repeat (first | exact Ext.refl _ | apply Ext.drewN | apply Ext.drew | apply Ext.alloc | (refine Ext.set ?_ (by first | (simp; done) | (simp; omega) | omega) _) | (refine Ext.trans ?_ (by assumption))))) hx⟩
      clear h1 hx
      go_wp2
      go_ret3
      exact HT.out
set_option maxHeartbeats 8000000 in
theorem l07To_any (g : Nat) (V : NV) (D : ND) (w : World) (hB : NBox w g V) (hI : NtR w V D) (hV : vnt D = true) :
    Calls Tryz.prog 31 #[.pointer (some ⟨g, 0, none⟩)] w (RetSl w (sgle D)) := by
  obtain ⟨k, A, na, ca, B, nb, cb, S, ns, cs, P, np, cp, Q, nq, cq⟩ := V
  obtain ⟨kk, dp, dm, ds, da, db⟩ := D
  obtain ⟨hk, hp, hm, hs, ha, hb⟩ := hI
  obtain ⟨hg, c0, c1, c2, c3, c4, c5⟩ := hB
  dsimp only at *
  subst hk
  have hls := hs.len
  have hlp := hp.len
  have hlm := hm.len
  have hla := ha.len
  have hlb := hb.len
  have hkd := vnt_kind hV
  dsimp only at hkd
  clear hV
  obtain ⟨r, hr⟩ : ∃ r, sgle ⟨k, dp, dm, ds, da, db⟩ = r := ⟨_, rfl⟩
  rw [hr]
  rcases hkd with ⟨rfl, hv⟩ | ⟨rfl, hv⟩ | ⟨rfl, hv⟩ | ⟨rfl, hv⟩
  · have HS : Hid (r = (dp, tz, 0)) := hr.symm
    clear hr
    have hn12 := (vpat_len hv).2
    go_enter Tryz.func31, Tryz.ntmps31
    go_wp2_with fail
    (with_reducible refine (l00Own_any A na ca dp _ (hp.ext (by with_reducible (repeat (first | exact Ext.refl _ | apply Ext.drewN | apply Ext.drew | apply Ext.alloc | (refine Ext.set ?_ (by first | (simp; done) | (simp; omega) | omega) _) | (refine Ext.trans ?_ (by assumption)))))) (by omega)).mono ?_)
    rintro e w1 ⟨A1, c1', rfl, hO⟩
    have HT : Hid (RetSl w r (.returned (.tuple #[.slice A1 na c1', .string tz, .int .i64 0])) w1) := by show RetSl _ _ _ _; rw [HS.out]; exact .inl ⟨rfl, A1, c1', by rw [hlp], by show Own _ _ (.slice A1 dp.length c1') dp; rw [hlp]; exact ⟨by rw [hlp]; exact ownsRow_le hO.own (Ext.size (by with_reducible (repeat (first | exact Ext.refl _ | apply Ext.drewN | apply Ext.drew | apply Ext.alloc | (refine Ext.set ?_ (by first | (simp; done) | (simp; omega) | omega) _) | (refine Ext.trans ?_ (by assumption)))))), Ext.trans (by with_reducible (repeat (first | exact Ext.refl _ | apply Ext.drewN | apply Ext.drew | apply Ext.alloc | (refine Ext.set ?_ (by first | (simp; done) | (simp; omega) | omega) _) | (refine Ext.trans ?_ (by assumption))))) hO.ext⟩⟩
    clear hO
    go_wp2
    go_ret3
    exact HT.out
  · have HS : Hid (r = if One dm nb then (sgl dm nb, tz, 0) else ([], tz, 10)) := by show _ = _; rw [← hr, ← hlm]; rfl
    clear hr
    go_enter Tryz.func31, Tryz.ntmps31
    go_wp2_with fail
    (with_reducible refine (specSingleOf_any B nb cb dm _ (hm.ext (by with_reducible (repeat (first | exact Ext.refl _ | apply Ext.drewN | apply Ext.drew | apply Ext.alloc | (refine Ext.set ?_ (by first | (simp; done) | (simp; omega) | omega) _) | (refine Ext.trans ?_ (by assumption)))))) hv).mono ?_)
    rintro e w1 (⟨h1, A1, c1', rfl, hO⟩ | ⟨h1, rfl, hx⟩)
    · have HT : Hid (RetSl w r (.returned (.tuple #[.slice A1 nb c1', .string tz, .int .i64 0])) w1) := by show RetSl _ _ _ _; rw [HS.out, if_pos h1]; exact .inl ⟨rfl, A1, c1', by rw [sgl_len], by show Own _ _ (.slice A1 (sgl dm nb).length c1') _; rw [sgl_len]; exact hO.base (by with_reducible (repeat (first | exact Ext.refl _ | apply Ext.drewN | apply Ext.drew | apply Ext.alloc | (refine Ext.set ?_ (by first | (simp; done) | (simp; omega) | omega) _) | (refine Ext.trans ?_ (by assumption)))))⟩
      clear hO h1
      go_wp2
      go_ret3
      exact HT.out
    · have HT : Hid (RetSl w r (.returned (.tuple #[.slice none 0 0, .string tz, .int .i64 10])) w1) := by show RetSl _ _ _ _; rw [HS.out, if_neg h1]; exact .inr ⟨(by decide), ⟨_, _, rfl⟩, Ext.trans (by with_reducible (repeat (first | exact Ext.refl _ | apply Ext.drewN | apply Ext.drew | apply Ext.alloc | (refine Ext.set ?_ (by first | (simp; done) | (simp; omega) | omega) _) | (refine Ext.trans ?_ (by assumption))))) hx⟩
      clear h1 hx
      go_wp2
      go_ret3
      exact HT.out
  · have HS : Hid (r = (sld ds (2 * ns), tT, 0)) := by show _ = _; rw [← hr, ← hls]; rfl
    clear hr
    go_enter Tryz.func31, Tryz.ntmps31
    go_wp2_with fail
    (with_reducible refine (specSlideSync_any S ns cs ds _ (hs.ext (by with_reducible (repeat (first | exact Ext.refl _ | apply Ext.drewN | apply Ext.drew | apply Ext.alloc | (refine Ext.set ?_ (by first | (simp; done) | (simp; omega) | omega) _) | (refine Ext.trans ?_ (by assumption)))))) hv).mono ?_)
    rintro e w1 ⟨A1, c1', rfl, hO⟩
    have HT : Hid (RetSl w r (.returned (.tuple #[.slice A1 (sld ds (2 * ns)).length c1', .string tT, .int .i64 0])) w1) := by show RetSl _ _ _ _; rw [HS.out]; exact .inl ⟨rfl, A1, c1', rfl, hO.base (by with_reducible (repeat (first | exact Ext.refl _ | apply Ext.drewN | apply Ext.drew | apply Ext.alloc | (refine Ext.set ?_ (by first | (simp; done) | (simp; omega) | omega) _) | (refine Ext.trans ?_ (by assumption)))))⟩
    clear hO
    generalize (sld ds (2 * ns)).length = z at *
    go_wp2
    go_ret3
    exact HT.out
  · obtain ⟨h81, h88, h8e⟩ := vpas_len hv
    obtain rfl : nq = np := by omega
    rw [hla] at h81 h88
    have HS : Hid (r = if NoP da nq ∧ NoP db nq then (vls da nq, tJ, if vls da nq = vls db nq then 0 else 10) else ([], tJ, 10)) := by show _ = _; rw [← hr, ← hla]; rfl
    clear hr
    have hfp := fpas_parts (show fpas da db = true by unfold vpas at hv; rw [Bool.and_eq_true] at hv; exact hv.1)
    have HBA : Hid (∀ y ∈ vls da nq, -9223372036854775808 ≤ y ∧ y ≤ 9223372036854775807) := vls_bd (fun i hi => hfp.2.2.2.1 i (by omega))
    have HBB : Hid (∀ y ∈ vls db nq, -9223372036854775808 ≤ y ∧ y ≤ 9223372036854775807) := vls_bd (fun i hi => hfp.2.2.2.2 i (by omega))
    clear hfp
    go_enter Tryz.func31, Tryz.ntmps31
    go_wp2_with fail
    (with_reducible refine (specApartOf_any P Q nq cp cq da db _ (ha.ext (by with_reducible (repeat (first | exact Ext.refl _ | apply Ext.drewN | apply Ext.drew | apply Ext.alloc | (refine Ext.set ?_ (by first | (simp; done) | (simp; omega) | omega) _) | (refine Ext.trans ?_ (by assumption)))))) (hb.ext (by with_reducible (repeat (first | exact Ext.refl _ | apply Ext.drewN | apply Ext.drew | apply Ext.alloc | (refine Ext.set ?_ (by first | (simp; done) | (simp; omega) | omega) _) | (refine Ext.trans ?_ (by assumption)))))) hv h88).mono ?_)
    rintro e w1 (⟨h1, h2, A1, c1', B1, d1', rfl, hO, hO2⟩ | ⟨h1, rfl, hx⟩)
    · have HQ : Hid (r = (vls da nq, tJ, if vls da nq = vls db nq then 0 else 10)) := by show _ = _; rw [HS.out, if_pos ⟨h1, h2⟩]
      have hIa := hO.ints (vls_len _ _) (by omega) HBA.out
      have hIb := hO2.ints (vls_len _ _) (by omega) HBB.out
      have hE1 : Ext w w1 := Ext.trans (by with_reducible (repeat (first | exact Ext.refl _ | apply Ext.drewN | apply Ext.drew | apply Ext.alloc | (refine Ext.set ?_ (by first | (simp; done) | (simp; omega) | omega) _) | (refine Ext.trans ?_ (by assumption))))) hO.ext
      have HOW := Lib.hid (hO.base (show Ext w _ from (by with_reducible (repeat (first | exact Ext.refl _ | apply Ext.drewN | apply Ext.drew | apply Ext.alloc | (refine Ext.set ?_ (by first | (simp; done) | (simp; omega) | omega) _) | (refine Ext.trans ?_ (by assumption)))))))
      clear hO hO2 h1 h2
      by_cases heq : vls da nq = vls db nq
      · have hd : decide (vls da nq = vls db nq) = true := decide_eq_true heq
        have HT : Hid (∀ q, RetSl w r (.returned (.tuple #[.slice A1 nq c1', .string tJ, .int .i64 0])) (w1.drewN q)) := fun q => by rw [HQ.out]; exact .inl ⟨if_pos heq, A1, c1', by rw [vls_len], by show Own _ _ (.slice A1 (vls da nq).length c1') _; rw [vls_len]; exact HOW.out.trans ((Ext.refl _).drewN q)⟩
        clear heq
        go_wp2_with fail
        (with_reducible refine (l00SameN_is A1 B1 nq nq c1' d1' _ _ _ hIa hIb _ hd).mono ?_)
        rintro e w2 ⟨rfl, q, rfl⟩
        generalize vls da nq = xs at *
        generalize vls db nq = ys at *
        go_wp2
        go_ret3
        exact HT.out q
      · have hd : decide (vls da nq = vls db nq) = false := decide_eq_false heq
        have HT : Hid (∀ q, RetSl w r (.returned (.tuple #[.slice A1 nq c1', .string tJ, .int .i64 10])) (w1.drewN q)) := fun q => by rw [HQ.out]; exact .inr ⟨by rw [if_neg heq]; show (10 : Int) ≠ 0; decide, ⟨_, _, by rw [if_neg heq]⟩, hE1.drewN q⟩
        clear heq
        go_wp2_with fail
        (with_reducible refine (l00SameN_is A1 B1 nq nq c1' d1' _ _ _ hIa hIb _ hd).mono ?_)
        rintro e w2 ⟨rfl, q, rfl⟩
        generalize vls da nq = xs at *
        generalize vls db nq = ys at *
        go_wp2
        go_ret3
        exact HT.out q
    · have HT : Hid (RetSl w r (.returned (.tuple #[.slice none 0 0, .string tJ, .int .i64 10])) w1) := by show RetSl _ _ _ _; rw [HS.out, if_neg h1]; exact .inr ⟨(by decide), ⟨_, _, rfl⟩, Ext.trans (by with_reducible (repeat (first | exact Ext.refl _ | apply Ext.drewN | apply Ext.drew | apply Ext.alloc | (refine Ext.set ?_ (by first | (simp; done) | (simp; omega) | omega) _) | (refine Ext.trans ?_ (by assumption))))) hx⟩
      clear h1 hx
      go_wp2
      go_ret3
      exact HT.out
end Go.Proofs.YtbihbhdaenhdoaaGreat
