/- Patterns out of texts: contracts of readThrows, ReadPattern and l02Read. No condition but the stated bounds. -/
import Derived.Test.YtinkaglngblddaaDoorLin
import Derived.Test.YtinkaglngblddaaDoorWrd
import Derived.Test.YtinkaglngblddaaDoorCla
import Derived.Test.YtinkaglngblddaaDoorMea
namespace Go.Proofs.YtinkaglngblddaaDoor
set_option linter.unusedVariables false
set_option linter.unusedSimpArgs false
open Go.RowKit Go.Joins

/-- What the characters of a text mean. -/
def hxs (s : ByteArray) : List Int := s.data.toList.map fun b => hxv b.toNat
theorem hxs_len (s : ByteArray) : (hxs s).length = s.size := by simp [hxs]
theorem hxs_bd (s : ByteArray) : ∀ y ∈ hxs s, -9223372036854775808 ≤ y ∧ y ≤ 9223372036854775807 := by
  intro y hy
  simp only [hxs, List.mem_map] at hy
  obtain ⟨b, _, rfl⟩ := hy
  have := hxv_bd b.toNat
  omega
/-- The first k of them. -/
def hxk (s : ByteArray) (k : Nat) : List Int := (s.data.toList.take k).map fun b => hxv b.toNat
theorem hxk_len {s : ByteArray} {k : Nat} (h : k ≤ s.size) : (hxk s k).length = k := by simp [hxk]; omega
theorem hxk_all (s : ByteArray) : hxk s s.size = hxs s := by unfold hxk hxs; rw [List.take_of_length_le (by simp)]
theorem hxk_succ {s : ByteArray} {k : Nat} (h : k < s.size) : hxk s (k + 1) = hxk s k ++ [hxv s[k].toNat] := by
  unfold hxk
  rw [List.take_succ_eq_append_getElem (by simpa using h), List.map_append]
  rfl
theorem vpat_long {xs : List Int} (h : 12 < xs.length) : vpat xs = false := by
  cases hv : vpat xs
  · rfl
  · have := (thr_iff.1 (vpat_thr hv)).2
    omega
theorem vpat_none : vpat [] = false := by
  cases hv : vpat []
  · rfl
  · have := (thr_iff.1 (vpat_thr hv)).2
    simp at this
/-- What readThrows hands back. -/
def RetThrows (w : World) (s : ByteArray) (e : Ending) (w' : World) : Prop :=
  ∃ A c b, e = .returned (.tuple #[.slice A (if s.size ≤ 12 then hxs s else []).length c, .bool b]) ∧ Own w w' (.slice A (if s.size ≤ 12 then hxs s else []).length c) (if s.size ≤ 12 then hxs s else [])
set_option maxHeartbeats 2000000 in
set_option maxRecDepth 100000 in
theorem readThrows_any (s : ByteArray) (w : World) (hs : s.size ≤ 2000000) :
    Calls Tryd.prog 65 #[.string s] w (RetThrows w s) := by
  by_cases h12 : s.size ≤ 12
  · have i1 : ¬ (12 : Int) < s.size := by omega
    go_enter Tryd.func65, Tryd.ntmps65
    go_wp2
    go_loopw [4, 12] (fun v i wr => ∃ k : Nat, k ≤ s.size ∧ i = .int .i64 k ∧ Own w wr v (hxk s k)) (fun _ i _ => s.size - (intOf i).toNat)
    case atStart => exact ⟨0, Nat.zero_le _, rfl, own_empty (Ext.refl _)⟩
    case round =>
      obtain ⟨k, hk, rfl, hown⟩ := hrel
      by_cases hlt : k < s.size
      · have hki : (k : Int) < s.size := by omega
        have hsc := hxk_succ hlt
        obtain ⟨x, hx⟩ : ∃ x, s[k] = x := ⟨_, rfl⟩
        rw [hx] at hsc
        have HSC := Lib.hid hsc
        clear hsc
        have hkl := hxk_len hk
        go_wp2_with (first | (go_at_call 84; (with_reducible refine (hexOf_any x.toNat _).mono ?_); rintro e w' ⟨rfl, rfl⟩) | (at_builtin; refine app1 rfl _ _ rfl _ (hxk s k) (hxv x.toNat) rfl hown rfl (by omega) ?_; intro v' w3 hown'))
        rw [← HSC.out] at hown'
        go_roundw
        case rel => exact ⟨k + 1, by omega, by go_num, hown'⟩
        case measure => simp [intOf]; omega
      · obtain rfl : k = s.size := by omega
        rw [hxk_all] at hown
        obtain ⟨A, c, rfl⟩ := hown.forms
        have hI := hown.ints (n := (hxs s).length) rfl (by rw [hxs_len]; omega) (hxs_bd s)
        have HO := Lib.hid hown
        clear hown
        go_wp2_with fail
        (with_reducible refine (areThrows_any A _ c (hxs s) _ hI).mono ?_)
        rintro e w1 ⟨rfl, hx1⟩
        go_wp2
        go_ret2
        refine ⟨A, c, thr (hxs s), ?_, ?_⟩
        · rw [if_pos h12]; rfl
        · rw [if_pos h12]; exact hx1 ▸ HO.out
  · have i1 : (12 : Int) < s.size := by omega
    go_enter Tryd.func65, Tryd.ntmps65
    go_wp2
    go_ret2
    refine ⟨none, 0, false, ?_, ?_⟩
    · rw [if_neg h12]; rfl
    · rw [if_neg h12]; exact ⟨⟨rfl, .inl ⟨rfl, rfl⟩⟩, Ext.refl _⟩
theorem ReadPattern_yes (s : ByteArray) (w : World) (hs : s.size ≤ 2000000) (hv : vpat (hxs s) = true) :
    Calls Tryd.prog 35 #[.string s] w fun e w' => ∃ A c, e = .returned (.tuple #[.slice A (hxs s).length c, .bool true]) ∧ Own w w' (.slice A (hxs s).length c) (hxs s) := by
  have h12 : s.size ≤ 12 := by have := (thr_iff.1 (vpat_thr hv)).2; rw [hxs_len] at this; omega
  have HV := Lib.hid hv
  clear hv
  go_enter Tryd.func35, Tryd.ntmps35
  go_wp2_with fail
  (with_reducible refine (readThrows_any s _ hs).mono ?_)
  rintro e w1 ⟨A, c, b, rfl, ho⟩
  rw [if_pos h12] at ho ⊢
  have hI := ho.ints (n := (hxs s).length) rfl (by rw [hxs_len]; omega) (hxs_bd s)
  have HO := Lib.hid ho
  clear ho
  go_wp2_with fail
  (with_reducible refine (ValidPattern_is A _ c (hxs s) true HV.out _ hI).mono ?_)
  rintro e w2 ⟨rfl, hx2⟩
  go_wp2
  go_ret2
  exact ⟨A, c, rfl, HO.out.trans hx2⟩
theorem ReadPattern_no (s : ByteArray) (w : World) (hs : s.size ≤ 2000000) (hv : vpat (hxs s) = false) :
    Calls Tryd.prog 35 #[.string s] w fun e w' => e = .returned (.tuple #[.slice none 0 0, .bool false]) ∧ Ext w w' := by
  by_cases h12 : s.size ≤ 12
  · have HV := Lib.hid hv
    clear hv
    go_enter Tryd.func35, Tryd.ntmps35
    go_wp2_with fail
    (with_reducible refine (readThrows_any s _ hs).mono ?_)
    rintro e w1 ⟨A, c, b, rfl, ho⟩
    rw [if_pos h12] at ho ⊢
    have hI := ho.ints (n := (hxs s).length) rfl (by rw [hxs_len]; omega) (hxs_bd s)
    have HO := Lib.hid ho.ext
    clear ho
    go_wp2_with fail
    (with_reducible refine (ValidPattern_is A _ c (hxs s) false HV.out _ hI).mono ?_)
    rintro e w2 ⟨rfl, hx2⟩
    go_wp2
    go_ret2
    exact ⟨rfl, HO.out.trans hx2⟩
  · go_enter Tryd.func35, Tryd.ntmps35
    go_wp2_with fail
    (with_reducible refine (readThrows_any s _ hs).mono ?_)
    rintro e w1 ⟨A, c, b, rfl, ho⟩
    rw [if_neg h12] at ho ⊢
    have hI := ho.ints (n := 0) rfl (by omega) (by simp)
    have HO := Lib.hid ho.ext
    clear ho
    go_wp2_with fail
    (with_reducible refine (ValidPattern_is A _ c [] false vpat_none _ hI).mono ?_)
    rintro e w2 ⟨rfl, hx2⟩
    go_wp2
    go_ret2
    exact ⟨rfl, HO.out.trans hx2⟩
theorem l02Digit_is (b : Nat) (hb : b ≤ 255) (w : World) :
    Calls Tryd.prog 63 #[.int .u8 (b : Int)] w fun e w' => e = .returned (.int .i64 (hxv b)) ∧ w = w' := by
  have HX : Hid (hxv b = if 48 ≤ b ∧ b ≤ 57 then (b : Int) - 48 else if 97 ≤ b ∧ b ≤ 102 then (b : Int) - 87 else -1) := rfl
  by_cases h1 : 48 ≤ b <;> by_cases h2 : b ≤ 57 <;> by_cases h3 : 97 ≤ b <;> by_cases h4 : b ≤ 102
  all_goals
    first
    | (exfalso; omega)
    | (go_enter Tryd.func63, Tryd.ntmps63
       go_wp2
       go_ret
       exact ⟨ret_int (by rw [HX.out]; first | (rw [if_pos (by omega)]; done) | (rw [if_pos (by omega)]; omega) | (rw [if_neg (by omega), if_pos (by omega)]; omega) | (rw [if_neg (by omega), if_neg (by omega)])), rfl⟩)
set_option maxHeartbeats 2000000 in
set_option maxRecDepth 100000 in
theorem l02Read_is (s : ByteArray) (w : World) (hs : s.size ≤ 1000) :
    Calls Tryd.prog 31 #[.string s] w (RetInts w (hxs s)) := by
  go_enter Tryd.func31, Tryd.ntmps31
  go_wp2
  go_loopw [3, 4] (fun v i wr => ∃ k : Nat, k ≤ s.size ∧ i = .int .i64 k ∧ Own w wr v (hxk s k)) (fun _ i _ => s.size - (intOf i).toNat)
  case atStart => exact ⟨0, Nat.zero_le _, rfl, own_empty (Ext.refl _)⟩
  case round =>
    obtain ⟨k, hk, rfl, hown⟩ := hrel
    by_cases hlt : k < s.size
    · have hki : (k : Int) < s.size := by omega
      have hsc := hxk_succ hlt
      obtain ⟨x, hx⟩ : ∃ x, s[k] = x := ⟨_, rfl⟩
      rw [hx] at hsc
      have HSC := Lib.hid hsc
      clear hsc
      have hkl := hxk_len hk
      have hxb : x.toNat ≤ 255 := by have := x.toNat_lt; omega
      go_wp2_with (first | (go_at_call 63; (with_reducible refine (l02Digit_is x.toNat hxb _).mono ?_); rintro e w' ⟨rfl, rfl⟩) | (at_builtin; refine app1 rfl _ _ rfl _ (hxk s k) (hxv x.toNat) rfl hown rfl (by omega) ?_; intro v' w3 hown'))
      rw [← HSC.out] at hown'
      go_roundw
      case rel => exact ⟨k + 1, by omega, by go_num, hown'⟩
      case measure => simp [intOf]; omega
    · obtain rfl : k = s.size := by omega
      rw [hxk_all] at hown
      obtain ⟨A, c, rfl⟩ := hown.forms
      have HO := Lib.hid hown
      clear hown
      go_wp2
      go_ret
      exact ⟨A, c, rfl, HO.out⟩
end Go.Proofs.YtinkaglngblddaaDoor
