/- The throws of a juggler of a pattern without passes: contracts of both sides' functions (passBeats, valuesOf, l06Alone), and joinLost. No condition but the stated bounds. -/
import Derived.Test.YtohmnilkmljioaaGreatSld
namespace Go.Proofs.YtohmnilkmljioaaGreat
set_option linter.unusedVariables false
set_option linter.unusedSimpArgs false
open Go.ChangeShapes Go.WideShapes Go.ChangeAt Go.RowKit Go.Joins Go.Deep

/-- The values of the first k throws. -/
def vls (ts : List (Int × Bool)) (k : Nat) : List Int := (List.range k).map (fun i => tv ts i)
theorem vls_len (ts : List (Int × Bool)) (k : Nat) : (vls ts k).length = k := by simp [vls]
theorem vls_succ (ts : List (Int × Bool)) (k : Nat) : vls ts (k + 1) = vls ts k ++ [tv ts k] := by simp [vls, List.range_succ]
/-- The beats with a pass among the first k. -/
def pbs (ts : List (Int × Bool)) : Nat → List Int
  | 0 => []
  | k + 1 => pbs ts k ++ (if tp ts k then [(k : Int)] else [])
theorem pbs_len (ts : List (Int × Bool)) : ∀ k, (pbs ts k).length ≤ k
  | 0 => Nat.le_refl _
  | k + 1 => by
    have := pbs_len ts k
    unfold pbs
    rw [List.length_append]
    split <;> simp <;> omega
/-- No pass among the first k. -/
def NoP (ts : List (Int × Bool)) (k : Nat) : Prop := ∀ i, i < k → tp ts i = false
instance (ts : List (Int × Bool)) (k : Nat) : Decidable (NoP ts k) := by unfold NoP; infer_instance
theorem NoP.succ {ts : List (Int × Bool)} {k : Nat} (h : NoP ts k) (hk : tp ts k = false) : NoP ts (k + 1) := fun i hi => by
  by_cases e : i = k
  · rw [e]; exact hk
  · exact h i (by omega)
theorem pbs_none (ts : List (Int × Bool)) : ∀ k, (pbs ts k).length = 0 ↔ NoP ts k
  | 0 => ⟨fun _ i h => absurd h (by omega), fun _ => rfl⟩
  | k + 1 => by
    have ih := pbs_none ts k
    unfold pbs
    rw [List.length_append]
    constructor
    · intro h i hi
      by_cases e : i = k
      · subst e
        cases hp : tp ts i
        · rfl
        · rw [hp] at h; simp at h
      · exact ih.1 (by omega) i (by omega)
    · intro h
      rw [h k (by omega), ih.2 (fun i hi => h i (by omega))]
      rfl
set_option maxRecDepth 100000 in
set_option maxHeartbeats 1000000 in
theorem valuesOf_any (A : Option Addr) (n c : Nat) (ts : List (Int × Bool)) (w : World) (hI : Thr w A n ts) (hn : n ≤ 1000) :
    Calls Tryz.prog 108 #[.slice A n c] w (RetInts w (vls ts n)) := by
  obtain ⟨i0, hi, hz0, hz1, hz2⟩ := info_parts infoInt
  go_enter Tryz.func108, Tryz.ntmps108
  go_wp2
  go_loopw [3, 9] (fun v i wr => ∃ k : Nat, k ≤ n ∧ i = .int .i64 k ∧ Own w wr v (vls ts k)) (fun _ i _ => n - (intOf i).toNat)
  case atStart => exact ⟨0, Nat.zero_le _, rfl, own_empty (Ext.refl _)⟩
  case round =>
    obtain ⟨k, hk, rfl, hown⟩ := hrel
    by_cases hlt : k < n
    · obtain ⟨b, off, rfl, hb, hcell⟩ := (hI.ext hown.ext).at_ (by omega)
      obtain ⟨c0, c1⟩ := hcell k hlt
      have hki : (k : Int) < n := by omega
      have hlen : (vls ts k).length ≤ 1000000 := by rw [vls_len]; omega
      have HS := Lib.hid (vls_succ ts k)
      clear hcell
      generalize tv ts k = v at c0 HS
      generalize tp ts k = p at c1
      have HSZ : Hid ((wr.alloc (.cells #[.int .i64 v, .bool p] 125)).heap.size = wr.heap.size + 1) := by show _ = _; simp
      have hown2 : Own w (wr.alloc (.cells #[.int .i64 v, .bool p] 125)) _ (vls ts k) := hown.trans ((Ext.refl _).alloc _)
      go_wp2_with (at_builtin; refine app1 rfl _ _ rfl _ _ _ rfl hown2 (by rw [HSZ.out]; rfl) hlen ?_; intro v' w3 hown')
      go_roundw
      case rel => exact ⟨k + 1, by omega, by go_num, by rw [HS.out]; exact hown'⟩
      case measure => simp [intOf]; omega
    · obtain rfl : k = n := by omega
      obtain ⟨A1, c1, rfl⟩ := hown.forms
      go_wp2
      go_ret
      exact ⟨_, _, rfl, hown⟩
set_option maxRecDepth 100000 in
set_option maxHeartbeats 1000000 in
theorem passBeats_any (A : Option Addr) (n c : Nat) (ts : List (Int × Bool)) (w : World) (hI : Thr w A n ts) (hn : n ≤ 1000) :
    Calls Tryz.prog 107 #[.slice A n c] w (RetInts w (pbs ts n)) := by
  obtain ⟨i0, hi, hz0, hz1, hz2⟩ := info_parts infoInt
  go_enter Tryz.func107, Tryz.ntmps107
  go_wp2
  go_loopw [3, 9] (fun v i wr => ∃ k : Nat, k ≤ n ∧ i = .int .i64 k ∧ Own w wr v (pbs ts k)) (fun _ i _ => n - (intOf i).toNat)
  case atStart => exact ⟨0, Nat.zero_le _, rfl, own_empty (Ext.refl _)⟩
  case round =>
    obtain ⟨k, hk, rfl, hown⟩ := hrel
    by_cases hlt : k < n
    · obtain ⟨b, off, rfl, hb, hcell⟩ := (hI.ext hown.ext).at_ (by omega)
      obtain ⟨c0, c1⟩ := hcell k hlt
      have hki : (k : Int) < n := by omega
      have hlen : (pbs ts k).length ≤ 1000000 := by have := pbs_len ts k; omega
      have HS : Hid (pbs ts (k + 1) = pbs ts k ++ (if tp ts k then [(k : Int)] else [])) := rfl
      clear hcell
      generalize tv ts k = v at c0
      generalize tp ts k = p at c1 HS
      have HSZ : Hid ((wr.alloc (.cells #[.int .i64 v, .bool p] 125)).heap.size = wr.heap.size + 1) := by show _ = _; simp
      have hown2 : Own w (wr.alloc (.cells #[.int .i64 v, .bool p] 125)) _ (pbs ts k) := hown.trans ((Ext.refl _).alloc _)
      cases p
      · have HE : Hid (pbs ts (k + 1) = pbs ts k) := by show _ = _; rw [HS.out]; simp
        have HO := Lib.hid hown2
        clear hown hown2
        go_wp2
        go_roundw
        case rel => exact ⟨k + 1, by omega, by go_num, by rw [HE.out]; exact HO.out⟩
        case measure => simp [intOf]; omega
      · have HE : Hid (pbs ts (k + 1) = pbs ts k ++ [(k : Int)]) := by show _ = _; rw [HS.out]; simp
        go_wp2_with (at_builtin; refine app1 rfl _ _ rfl _ _ _ rfl hown2 (by rw [HSZ.out]; rfl) hlen ?_; intro v' w3 hown')
        go_roundw
        case rel => exact ⟨k + 1, by omega, by go_num, by rw [HE.out]; exact hown'⟩
        case measure => simp [intOf]; omega
    · obtain rfl : k = n := by omega
      obtain ⟨A1, c1, rfl⟩ := hown.forms
      go_wp2
      go_ret
      exact ⟨_, _, rfl, hown⟩
/-- What l06Alone hands back. -/
def RetAl (w : World) (ts : List (Int × Bool)) (n : Nat) (e : Ending) (w' : World) : Prop :=
  (NoP ts n ∧ ∃ A c, e = .returned (.tuple #[.slice A n c, .bool true]) ∧ Own w w' (.slice A n c) (vls ts n)) ∨ (¬ NoP ts n ∧ e = .returned (.tuple #[.slice none 0 0, .bool false]) ∧ Ext w w')
set_option maxRecDepth 100000 in
set_option maxHeartbeats 1000000 in
theorem l06Alone_any (A : Option Addr) (n c : Nat) (ts : List (Int × Bool)) (w : World) (hI : Thr w A n ts) (hn : n ≤ 1000) :
    Calls Tryz.prog 95 #[.slice A n c] w (RetAl w ts n) := by
  obtain ⟨i0, hi, hz0, hz1, hz2⟩ := info_parts infoInt
  go_enter Tryz.func95, Tryz.ntmps95
  go_wp2
  go_loopw [4, 5] (fun v i wr => ∃ k : Nat, k ≤ n ∧ i = .int .i64 k ∧ NoP ts k ∧ Own w wr v (vls ts k)) (fun _ i _ => n - (intOf i).toNat)
  case atStart => exact ⟨0, Nat.zero_le _, rfl, fun i h => absurd h (by omega), own_empty (Ext.refl _)⟩
  case round =>
    obtain ⟨k, hk, rfl, hno, hown⟩ := hrel
    have HNO := Lib.hid hno
    clear hno
    by_cases hlt : k < n
    · obtain ⟨b, off, rfl, hb, hcell⟩ := (hI.ext hown.ext).at_ (by omega)
      obtain ⟨c0, c1⟩ := hcell k hlt
      have hki : (k : Int) < n := by omega
      have hlen : (vls ts k).length ≤ 1000000 := by rw [vls_len]; omega
      have HS := Lib.hid (vls_succ ts k)
      have HY : Hid (tp ts k = false → NoP ts (k + 1)) := fun h => HNO.out.succ h
      have HN : Hid (tp ts k = true → ¬ NoP ts n) := fun h h2 => by have := h2 k hlt; rw [h] at this; cases this
      clear hcell
      generalize tv ts k = v at c0 HS
      obtain ⟨p, hp⟩ : ∃ p, tp ts k = p := ⟨_, rfl⟩
      rw [hp] at c1
      have HP := Lib.hid hp
      clear hp
      cases p
      · have HG := Lib.hid (HY.out HP.out)
        go_wp2_with (at_builtin; refine app1 rfl _ _ rfl _ _ _ rfl hown rfl hlen ?_; intro v' w3 hown')
        go_roundw
        case rel => exact ⟨k + 1, by omega, by go_num, HG.out, by rw [HS.out]; exact hown'⟩
        case measure => simp [intOf]; omega
      · have HG : Hid (RetAl w ts n (.returned (.tuple #[.slice none 0 0, .bool false])) wr) := .inr ⟨HN.out HP.out, rfl, hown.ext⟩
        go_wp2
        go_ret2
        exact HG.out
    · obtain rfl : k = n := by omega
      obtain ⟨A1, c1, rfl⟩ := hown.forms
      rw [vls_len] at hown ⊢
      have HG : Hid (RetAl w ts k (.returned (.tuple #[.slice A1 k c1, .bool true])) wr) := .inl ⟨HNO.out, A1, c1, rfl, hown⟩
      go_wp2
      go_ret2
      exact HG.out
theorem joinLost_none (t : ByteArray) (w : World) :
    Calls Tryz.prog 30 #[.string { data := #[] }, .string t] w fun e w' => e = .returned (.string t) ∧ Ext w w' := by
  go_enter Tryz.func30, Tryz.ntmps30
  go_wp2
  go_ret
  exact ⟨rfl, (by with_reducible (repeat (first | exact Ext.refl _ | apply Ext.drewN | apply Ext.drew | apply Ext.alloc | (refine Ext.set ?_ (by first | (simp; done) | (simp; omega) | omega) _) | (refine Ext.trans ?_ (by assumption)))))⟩
end Go.Proofs.YtohmnilkmljioaaGreat
