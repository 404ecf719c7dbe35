/- The pattern that a synchronous pattern slides to: the plain words, and contracts of both sides' functions. No condition but the stated bounds. -/
import Derived.Test.YtohmnilkmljioaaGreatSom
namespace Go.Proofs.YtohmnilkmljioaaGreat
set_option linter.unusedVariables false
set_option linter.unusedSimpArgs false
open Go.ChangeShapes Go.WideShapes Go.ChangeAt Go.RowKit Go.Joins Go.Deep

/-- The throw of the pattern for the throw with a number. -/
def sdv (v : Int) (p : Bool) (k : Nat) : Int := if p then (if k % 2 = 0 then v + 1 else v - 1) else v
/-- The first k of them. -/
def sld (ts : List (Int × Bool)) (k : Nat) : List Int := (List.range k).map (fun i => sdv (tv ts i) (tp ts i) i)
theorem sld_len (ts : List (Int × Bool)) (k : Nat) : (sld ts k).length = k := by simp [sld]
theorem sld_succ (ts : List (Int × Bool)) (k : Nat) : sld ts (k + 1) = sld ts k ++ [sdv (tv ts k) (tp ts k) k] := by simp [sld, List.range_succ]
theorem l05Slide_any (A : Option Addr) (n c : Nat) (ts : List (Int × Bool)) (k : Nat) (hk : k < 2 * n) (hn : n ≤ 6) (hs : sok (tv ts k) (tp ts k) = true) (w : World) (hI : Syn w A n ts) :
    Calls Tryz.prog 94 #[.slice A n c, .int .i64 k] w fun e w' => e = .returned (.int .i64 (sdv (tv ts k) (tp ts k) k)) ∧ Ext w w' := by
  obtain ⟨s0, s1, -, -⟩ := sok_bd hs
  obtain ⟨v, hv⟩ : ∃ v, tv ts k = v := ⟨_, rfl⟩
  obtain ⟨p, hp⟩ : ∃ p, tp ts k = p := ⟨_, rfl⟩
  have HV := Lib.hid hv
  have HP := Lib.hid hp
  rw [hv] at s0 s1
  rw [hv, hp]
  clear hv hp hs
  obtain ⟨z, hz⟩ : ∃ z, sdv v p k = z := ⟨_, rfl⟩
  have HZ := Lib.hid hz
  rw [hz]
  clear hz
  obtain ⟨x, hx0⟩ : ∃ x, k % 2 = x := ⟨_, rfl⟩
  have hx1 : Int.tmod (k : Int) 2 = x := by rw [← hx0]; rfl
  have HX := Lib.hid hx0
  have hxb : x = 0 ∨ x = 1 := by omega
  clear hx0
  go_enter Tryz.func94, Tryz.ntmps94
  go_wp2_with fail
  (with_reducible refine (l05At_any A n c ts k hk (by omega) _ (hI.ext (by with_reducible (repeat (first | exact Ext.refl _ | apply Ext.drewN | apply Ext.drew | apply Ext.alloc | (refine Ext.set ?_ (by first | (simp; done) | (simp; omega) | omega) _) | (refine Ext.trans ?_ (by assumption))))))).mono ?_)
  rw [HV.out, HP.out]
  rintro e w1 ⟨rfl, hx⟩
  have hE : Ext w w1 := hx
  clear hx
  cases p
  · have e : z = v := by have := HZ.out; simp [sdv] at this; omega
    subst e
    go_wp2
    go_ret
    exact ⟨rfl, (by with_reducible (repeat (first | exact Ext.refl _ | apply Ext.drewN | apply Ext.drew | apply Ext.alloc | (refine Ext.set ?_ (by first | (simp; done) | (simp; omega) | omega) _) | (refine Ext.trans ?_ (by assumption)))))⟩
  · rcases hxb with rfl | rfl
    · have e : z = v + 1 := by have := HZ.out; simp [sdv, HX.out] at this; omega
      clear HZ
      subst e
      go_wp2
      go_ret
      exact ⟨rfl, (by with_reducible (repeat (first | exact Ext.refl _ | apply Ext.drewN | apply Ext.drew | apply Ext.alloc | (refine Ext.set ?_ (by first | (simp; done) | (simp; omega) | omega) _) | (refine Ext.trans ?_ (by assumption)))))⟩
    · have e : z = v - 1 := by have := HZ.out; simp [sdv, HX.out] at this; omega
      clear HZ
      subst e
      go_wp2
      go_ret
      exact ⟨rfl, (by with_reducible (repeat (first | exact Ext.refl _ | apply Ext.drewN | apply Ext.drew | apply Ext.alloc | (refine Ext.set ?_ (by first | (simp; done) | (simp; omega) | omega) _) | (refine Ext.trans ?_ (by assumption)))))⟩
set_option maxRecDepth 100000 in
set_option maxHeartbeats 2000000 in
theorem slid_any (A : Option Addr) (n c : Nat) (ts : List (Int × Bool)) (w : World) (hI : Syn w A n ts) (ht : slis ts = true) :
    Calls Tryz.prog 71 #[.slice A n c] w (RetInts w (sld ts (2 * n))) := by
  obtain ⟨hn1, hn6, hsk⟩ := slis_iff hI.len ht
  have HSOK := Lib.hid hsk
  clear hsk ht
  obtain ⟨i0, hi, hz0, hz1, hz2⟩ := info_parts infoInt
  go_enter Tryz.func71, Tryz.ntmps71
  go_wp2
  go_loopw [3, 11] (fun v i wr => ∃ k : Nat, k ≤ 2 * n ∧ i = .int .i64 k ∧ Own w wr v (sld ts k)) (fun _ i _ => 2 * n - (intOf i).toNat)
  case atStart => exact ⟨0, Nat.zero_le _, rfl, own_empty (Ext.refl _)⟩
  case round =>
    obtain ⟨k, hk, rfl, hown⟩ := hrel
    by_cases hlt : k < 2 * n
    · have hki : (k : Int) < 2 * n := by omega
      obtain ⟨s0, s1, -, -⟩ := sok_bd (HSOK.out k hlt)
      have hlen : (sld ts k).length ≤ 1000000 := by rw [sld_len]; omega
      have HS := Lib.hid (sld_succ ts k)
      obtain ⟨v, hv⟩ : ∃ v, tv ts k = v := ⟨_, rfl⟩
      obtain ⟨p, hp⟩ : ∃ p, tp ts k = p := ⟨_, rfl⟩
      have HV := Lib.hid hv
      have HP := Lib.hid hp
      rw [hv] at s0 s1
      clear hv hp
      rw [HV.out, HP.out] at HS
      obtain ⟨x, hx0⟩ : ∃ x, k % 2 = x := ⟨_, rfl⟩
      have hx1 : Int.tmod (k : Int) 2 = x := by rw [← hx0]; rfl
      have HX := Lib.hid hx0
      have hxb : x = 0 ∨ x = 1 := by omega
      clear hx0
      go_wp2_with fail
      (with_reducible refine (numbered_any A n c ts k hlt (by omega) _ (hI.ext hown.ext)).mono ?_)
      rw [HV.out, HP.out]
      rintro e w1 ⟨rfl, hx⟩
      have hown1 := hown.trans hx
      have HSZ : Hid ((w1.alloc (.cells #[.int .i64 v, .bool p] 96)).heap.size = w1.heap.size + 1) := by show _ = _; simp
      have hown2 : Own w (w1.alloc (.cells #[.int .i64 v, .bool p] 96)) _ (sld ts k) := hown1.trans ((Ext.refl _).alloc _)
      clear hown hx
      cases p
      · have HE : Hid (sdv v false k = v) := by show _ = _; simp [sdv]
        go_wp2_with (at_builtin; refine app1 rfl _ _ rfl _ _ _ rfl hown2 (by rw [HSZ.out]; rfl) hlen ?_; intro v' w3 hown')
        go_roundw
        case rel => exact ⟨k + 1, by omega, by go_num, by rw [HS.out, HE.out]; exact hown'⟩
        case measure => simp [intOf]; omega
      · rcases hxb with rfl | rfl
        · have HE : Hid (sdv v true k = v + 1) := by show _ = _; simp [sdv, HX.out]
          go_wp2_with (at_builtin; refine app1 rfl _ _ rfl _ _ _ rfl hown2 (by rw [HSZ.out]; rfl) hlen ?_; intro v' w3 hown')
          go_roundw
          case rel => exact ⟨k + 1, by omega, by go_num, by rw [HS.out, HE.out]; exact hown'⟩
          case measure => simp [intOf]; omega
        · have HE : Hid (sdv v true k = v - 1) := by show _ = _; simp [sdv, HX.out]
          go_wp2_with (at_builtin; refine app1 rfl _ _ rfl _ _ _ rfl hown2 (by rw [HSZ.out]; rfl) hlen ?_; intro v' w3 hown')
          go_roundw
          case rel => exact ⟨k + 1, by omega, by go_num, by rw [HS.out, HE.out]; exact hown'⟩
          case measure => simp [intOf]; omega
    · obtain rfl : k = 2 * n := by omega
      obtain ⟨A1, c1, rfl⟩ := hown.forms
      go_wp2
      go_ret
      exact ⟨_, _, rfl, hown⟩
/-- A slice of numbers of the call's own, and a code. -/
def RetIC (w : World) (ys : List Int) (r : Int) (e : Ending) (w' : World) : Prop := ∃ A c, e = .returned (.tuple #[.slice A ys.length c, .int .i64 r]) ∧ Own w w' (.slice A ys.length c) ys
set_option maxHeartbeats 2000000 in
theorem specSlideSync_any (A : Option Addr) (n c : Nat) (ts : List (Int × Bool)) (w : World) (hI : Syn w A n ts) (hV : vsyn ts = true) :
    Calls Tryz.prog 54 #[.slice A n c] w (RetIC w (sld ts (2 * n)) 0) := by
  have ht : slis ts = true := by unfold vsyn at hV; rw [Bool.and_eq_true] at hV; exact hV.1
  obtain ⟨hn1, hn6, hsk⟩ := slis_iff hI.len ht
  have HSOK := Lib.hid hsk
  clear hsk ht
  obtain ⟨i0, hi, hz0, hz1, hz2⟩ := info_parts infoInt
  go_enter Tryz.func54, Tryz.ntmps54
  go_wp2_with fail
  (with_reducible refine (l05Ok_is A n c ts _ hV _ hI).mono ?_)
  rintro e w1 ⟨rfl, hx1⟩
  go_wp2
  go_loopw [4, 5] (fun v i wr => ∃ k : Nat, k ≤ 2 * n ∧ i = .int .i64 k ∧ Own w wr v (sld ts k)) (fun _ i _ => 2 * n - (intOf i).toNat)
  case atStart => exact ⟨0, Nat.zero_le _, rfl, own_empty hx1⟩
  case round =>
    obtain ⟨k, hk, rfl, hown⟩ := hrel
    by_cases hlt : k < 2 * n
    · have hki : (k : Int) < 2 * n := by omega
      have hlen : (sld ts k).length ≤ 1000000 := by rw [sld_len]; omega
      have HS := Lib.hid (sld_succ ts k)
      go_wp2_with fail
      (with_reducible refine (l05Slide_any A n c ts k hlt (by omega) (HSOK.out k hlt) _ (hI.ext hown.ext)).mono ?_)
      generalize sdv (tv ts k) (tp ts k) k = z at HS ⊢
      rintro e w2 ⟨rfl, hx⟩
      have hown1 := hown.trans hx
      clear hown hx
      go_wp2_with (at_builtin; refine app1 rfl _ _ rfl _ _ _ rfl hown1 rfl hlen ?_; intro v' w3 hown')
      go_roundw
      case rel => exact ⟨k + 1, by omega, by go_num, by rw [HS.out]; exact hown'⟩
      case measure => simp [intOf]; omega
    · obtain rfl : k = 2 * n := by omega
      obtain ⟨A1, c1, rfl⟩ := hown.forms
      go_wp2
      go_ret2
      exact ⟨_, _, rfl, hown⟩
end Go.Proofs.YtohmnilkmljioaaGreat
