/- Pictures of throws: contracts of the columns with a star, and of the throws that they tell. No condition but the stated bounds. -/
import Derived.Test.YtendemigegjbfaaLin2
import Derived.Test.YtendemigegjbfaaApp
namespace Go.Proofs.Ytendemigegjbfaa
set_option linter.unusedVariables false
set_option linter.unusedSimpArgs false
open Go.RowKit Go.Joins

theorem infoInt_ : (Try.prog.info? 3).map (fun i => (i.zero, i.size, i.bytes)) = some (some (.int .i64 0), 1, 8) := by kernel_rfl
theorem elInt_ : ElInfo Try.prog 3 1 := elInfo infoInt_ rfl
/-- A row of ints that a call made. -/
def RetI (w : World) (n : Nat) (xs : List Int) (en : Ending) (w' : World) : Prop := ∃ A c, en = .returned (.slice A n c) ∧ OwnR 3 1 w w' (.slice A n c) n xs
set_option maxHeartbeats 1000000 in
theorem starsOf_any (s : ByteArray) (w : World) (h2 : 2 ≤ s.size) (h17 : s.size ≤ 17) :
    Calls Try.prog 86 #[.string s] w (RetI w (stl s s.size).length (stl s s.size)) := by
  have hE0 := ownR_empty (Ext.refl w) 3 1
  go_enter Try.func86, Try.ntmps86
  go_wp2
  go_loopw [3, 4] (fun v i wr => ∃ k : Nat, 2 ≤ k ∧ k ≤ s.size ∧ i = .int .i64 k ∧ OwnR 3 1 w wr v (stl s k).length (stl s k)) (fun _ i _ => s.size - (intOf i).toNat)
  case atStart => exact ⟨2, by omega, h2, rfl, by rw [stl_two]; exact hE0⟩
  case round =>
    obtain ⟨k, hk2, hk, rfl, hown⟩ := hrel
    by_cases hlt : k < s.size
    · have hki : (k : Int) < s.size := by omega
      have hll := stl_len s k
      have hb := bt_eq hlt
      by_cases h1 : bt s k = 42
      · have HA : Hid (stl s (k + 1) = stl s k ++ [(k : Int)]) := stl_hit hk2 h1
        have e1 : (((s[k].toNat : Nat) : Int) == 42) = true := by rw [hb, h1]; rfl
        clear hb h1
        go_wp2_with (first | (at_builtin; refine appM elInt_ (by omega) rfl _ _ Try.underlying79 rfl rfl (hown.trans (by with_reducible (repeat (first | exact Ext.refl _ | apply Ext.drewN | apply Ext.drew | apply Ext.alloc | (refine Ext.set ?_ (by first | (simp; done) | (simp; omega) | omega) _) | (refine Ext.trans ?_ (by assumption)))))) (by omega) rfl (heap_alloc_new _ _) (ys := [(k : Int)]) (by rfl) (by rfl) ?_; intro v' w3 hown'))
        go_roundw
        case rel => exact ⟨k + 1, by omega, by omega, by go_num, by rw [HA.out, List.length_append]; exact hown'⟩
        case measure => simp [intOf]; omega
      · have HA : Hid (stl s (k + 1) = stl s k) := stl_miss h1
        have e1 : (((s[k].toNat : Nat) : Int) == 42) = false := by rw [hb]; simp; omega
        clear hb h1
        go_wp2
        go_roundw
        case rel => exact ⟨k + 1, by omega, by omega, by go_num, by rw [HA.out]; exact hown⟩
        case measure => simp [intOf]; omega
    · obtain rfl : k = s.size := by omega
      obtain ⟨A3, c3, rfl⟩ := hown.forms
      have HT : Hid (RetI w (stl s s.size).length (stl s s.size) (.returned (.slice A3 (stl s s.size).length c3)) wr) := ⟨A3, c3, rfl, hown⟩
      go_wp2
      go_ret
      exact HT.out
/-- The column with a star: -1 if there is none, -2 if there are several. -/
def stv (s : ByteArray) : Int := match stl s s.size with
  | [] => -1
  | [c] => c
  | _ => -2
theorem stv_none {s : ByteArray} (h : stl s s.size = []) : stv s = -1 := by unfold stv; rw [h]
theorem stv_one {s : ByteArray} {c : Int} (h : stl s s.size = [c]) : stv s = c := by unfold stv; rw [h]
theorem stv_more {s : ByteArray} (h : 2 ≤ (stl s s.size).length) : stv s = -2 := by
  unfold stv
  match hs : stl s s.size with
  | [] => rw [hs] at h; simp at h
  | [c] => rw [hs] at h; simp at h
  | _ :: _ :: _ => rfl
set_option maxHeartbeats 1000000 in
theorem l18Star_any (s : ByteArray) (w : World) (h2 : 2 ≤ s.size) (h17 : s.size ≤ 17) :
    Calls Try.prog 87 #[.string s] w fun e w' => e = .returned (.int .i64 (stv s)) ∧ w = w' := by
  go_enter Try.func87, Try.ntmps87
  go_wp2
  go_loop [3, 4] (fun o i => ∃ k : Nat, ∃ v : Int, 2 ≤ k ∧ k ≤ s.size ∧ i = .int .i64 k ∧ o = .int .i64 v ∧ (v = -1 ∧ stl s k = [] ∨ 2 ≤ v ∧ v < 17 ∧ stl s k = [v])) (fun _ i => s.size - (intOf i).toNat)
  case atStart => exact ⟨2, -1, by omega, h2, rfl, rfl, .inl ⟨rfl, stl_two s⟩⟩
  case round =>
    obtain ⟨k, v, hk2, hk, rfl, rfl, hv⟩ := hrel
    by_cases hlt : k < s.size
    · have hki : (k : Int) < s.size := by omega
      have hb := bt_eq hlt
      by_cases h1 : bt s k = 42
      · have HA : Hid (stl s (k + 1) = stl s k ++ [(k : Int)]) := stl_hit hk2 h1
        have HM := Lib.hid (stl_mono s (show k + 1 ≤ s.size by omega))
        have e1 : (((s[k].toNat : Nat) : Int) == 42) = true := by rw [hb, h1]; rfl
        clear hb h1
        rcases hv with ⟨rfl, hv⟩ | ⟨hv1, hv2, hv⟩
        · have HV : Hid (stl s (k + 1) = [(k : Int)]) := by show _ = _; rw [HA.out, hv]; rfl
          clear hv
          go_wp2
          go_round
          case rel => exact ⟨k + 1, k, by omega, by omega, by go_num, rfl, .inr ⟨by omega, by omega, HV.out⟩⟩
          case measure => simp [intOf]; omega
        · have HR : Hid (stv s = -2) := stv_more (Nat.le_trans (by rw [HA.out, hv]; simp) HM.out)
          have hv0 : 0 ≤ v := by omega
          clear hv
          go_wp2
          go_ret
          exact ⟨ret_int HR.out.symm, rfl⟩
      · have HA : Hid (stl s (k + 1) = stl s k) := stl_miss h1
        have HV := Lib.hid hv
        have e1 : (((s[k].toNat : Nat) : Int) == 42) = false := by rw [hb]; simp; omega
        clear hb h1 hv
        go_wp2
        go_round
        case rel => exact ⟨k + 1, v, by omega, by omega, by go_num, rfl, by rw [HA.out]; exact HV.out⟩
        case measure => simp [intOf]; omega
    · obtain rfl : k = s.size := by omega
      have HR : Hid (stv s = v) := by
        rcases hv with ⟨rfl, hv⟩ | ⟨_, _, hv⟩
        · exact stv_none hv
        · exact stv_one hv
      go_wp2
      go_ret
      exact ⟨ret_int HR.out.symm, rfl⟩
theorem l18Star_is (s : ByteArray) (w : World) (h2 : 2 ≤ s.size) (h17 : s.size ≤ 17) (v : Int) (h : Hid (stv s = v)) :
    Calls Try.prog 87 #[.string s] w fun e w' => e = .returned (.int .i64 v) ∧ w = w' := by
  rw [← h.out]
  exact l18Star_any s w h2 h17
set_option maxHeartbeats 1000000 in
theorem l18Throw_any (A : Option Addr) (n c : Nat) (ls : List ByteArray) (i : Nat) (w : World) (hI : Strs w A n ls) (hf : lfm ls = true) (hi : i < n) :
    Calls Try.prog 64 #[.slice A n c, .int .i64 i] w fun e w' => e = .returned (.int .i64 (told ls i)) ∧ w = w' := by
  obtain ⟨hrow, h60⟩ := lfm_iff hf
  rw [hI.len] at hrow h60
  have HROW := Lib.hid hrow
  have HL := Lib.hid hI.len
  clear hrow hf
  obtain ⟨b, off, rfl, hb, hcell⟩ := hI.at_ (by omega)
  have c0 := hcell i hi
  have HC := Lib.hid hcell
  clear hcell
  have hii : (i : Int) < n := by omega
  obtain ⟨g1, g2, g3, _⟩ := HROW.out i hi
  have hS := stl_cases (gs ls i)
  rcases hS with hS | ⟨k, hS, hk2, hks⟩ | hS
  · have HV : Hid (stv (gs ls i) = -1) := stv_none hS
    have HT : Hid (told ls i = 0) := told_none hS
    clear hS
    generalize gs ls i = s at *
    go_enter Try.func64, Try.ntmps64
    go_wp2_with (first | (go_at_call 87; (with_reducible refine (l18Star_is _ _ g2 g3 _ HV).mono ?_); rintro e w' ⟨rfl, rfl⟩))
    go_ret
    exact ⟨ret_int HT.out.symm, rfl⟩
  · have HV : Hid (stv (gs ls i) = (k : Int)) := stv_one hS
    have HT : Hid (told ls i = seek (fun j => decide (bt (gs ls j) k = 42)) i (i + 1) (n - (i + 1))) := by show _ = _; rw [told_one hS, HL.out]
    have hkz : k < (gs ls 0).size := by omega
    clear hS
    generalize gs ls i = s at *
    have hk0 : (0 : Int) < k := by omega
    have hkm : ((k : Int) == -1) = false := by first | (simp; done) | (simp; omega)
    go_enter Try.func64, Try.ntmps64
    go_wp2_with (first | (go_at_call 87; (with_reducible refine (l18Star_is _ _ g2 g3 _ HV).mono ?_); rintro e w' ⟨rfl, rfl⟩))
    go_loop [6] (fun q => ∃ j : Nat, i + 1 ≤ j ∧ j ≤ n ∧ q = .int .i64 j ∧ told ls i = seek (fun j => decide (bt (gs ls j) k = 42)) i j (n - j)) (fun q => n - (intOf q).toNat)
    case atStart => exact ⟨i + 1, by omega, by omega, (by first | rfl | go_num), HT.out⟩
    case round =>
      obtain ⟨j, hj1, hj, rfl, htd⟩ := hrel
      have HD := Lib.hid htd
      clear htd
      by_cases hjl : j < n
      · have hji : (j : Int) < n := by omega
        have c1 := HC.out j hjl
        obtain ⟨r1, _⟩ := HROW.out j hjl
        have hkj : k < (gs ls j).size := by omega
        have hkji : (k : Int) < (gs ls j).size := by omega
        have hbk := bt_eq hkj
        have HBS : Hid (bt (gs ls j) k = bt (gs ls j) k) := rfl
        by_cases h1 : bt (gs ls j) k = 42
        · have HR : Hid (told ls i = (j : Int) - i) := by show _ = _; rw [HD.out]; exact seek_hit (by omega) (decide_eq_true h1)
          have e1 : ((((gs ls j)[k].toNat : Nat) : Int) == 42) = true := by rw [hbk, h1]; rfl
          clear hbk h1
          generalize gs ls j = t at *
          go_wp2
          go_ret
          exact ⟨ret_int HR.out.symm, rfl⟩
        · have HR : Hid (told ls i = seek (fun j => decide (bt (gs ls j) k = 42)) i (j + 1) (n - (j + 1))) := by show _ = _; rw [HD.out, seek_miss (decide_eq_false h1) (by omega), show n - j - 1 = n - (j + 1) by omega]
          have e1 : ((((gs ls j)[k].toNat : Nat) : Int) == 42) = false := by rw [hbk]; simp; omega
          clear hbk h1
          generalize gs ls j = t at *
          go_wp2
          go_round
          case rel => exact ⟨j + 1, by omega, by omega, by go_num, HR.out⟩
          case measure => simp [intOf]; omega
      · obtain rfl : j = n := by omega
        have HR : Hid (told ls i = -1) := by show _ = _; rw [HD.out, Nat.sub_self]; rfl
        go_wp2
        go_ret
        exact ⟨ret_int HR.out.symm, rfl⟩
  · have HV : Hid (stv (gs ls i) = -2) := stv_more hS
    have HT : Hid (told ls i = -1) := told_more hS
    clear hS
    generalize gs ls i = s at *
    go_enter Try.func64, Try.ntmps64
    go_wp2_with (first | (go_at_call 87; (with_reducible refine (l18Star_is _ _ g2 g3 _ HV).mono ?_); rintro e w' ⟨rfl, rfl⟩))
    go_loop [6] (fun q => q = .int .i64 (i + 1)) (fun q => 0)
    case atStart => rfl
    case round =>
      subst hrel
      by_cases hn : (i : Int) + 1 < n
      · go_wp2
        go_ret
        exact ⟨ret_int HT.out.symm, rfl⟩
      · go_wp2
        go_ret
        exact ⟨ret_int HT.out.symm, rfl⟩
theorem l18Throw_is (A : Option Addr) (n c : Nat) (ls : List ByteArray) (i : Nat) (w : World) (hI : Strs w A n ls) (hf : Hid (lfm ls = true)) (hi : i < n) (v : Int) (h : Hid (told ls i = v)) :
    Calls Try.prog 64 #[.slice A n c, .int .i64 i] w fun e w' => e = .returned (.int .i64 v) ∧ w = w' := by
  rw [← h.out]
  exact l18Throw_any A n c ls i w hI hf.out hi
set_option maxHeartbeats 2000000 in
theorem toldThrow_any (A : Option Addr) (n c : Nat) (ls : List ByteArray) (i : Nat) (w : World) (hI : Strs w A n ls) (hf : lfm ls = true) (hi : i < n) :
    Calls Try.prog 63 #[.slice A n c, .int .i64 i] w fun e w' => e = .returned (.int .i64 (told ls i)) ∧ Ext w w' := by
  obtain ⟨hrow, h60⟩ := lfm_iff hf
  rw [hI.len] at hrow h60
  have HROW := Lib.hid hrow
  have HL := Lib.hid hI.len
  clear hrow hf
  obtain ⟨b, off, rfl, hb, hcell⟩ := hI.at_ (by omega)
  have c0 := hcell i hi
  have HC := Lib.hid hcell
  clear hcell
  have hii : (i : Int) < n := by omega
  obtain ⟨g1, g2, g3, _⟩ := HROW.out i hi
  have hS := stl_cases (gs ls i)
  rcases hS with hS | ⟨k, hS, hk2, hks⟩ | hS
  · have HT : Hid (told ls i = 0) := told_none hS
    have HS : Hid ((stl (gs ls i) (gs ls i).size).length = 0) := by show _ = _; rw [hS]; rfl
    clear hS
    generalize gs ls i = s at *
    go_enter Try.func63, Try.ntmps63
    go_wp2_with (first | (go_at_call 86; (with_reducible refine (starsOf_any _ _ g2 g3).mono ?_); rw [HS.out]; rintro e w1 ⟨A1, c1, rfl, ho⟩))
    go_ret
    exact ⟨ret_int HT.out.symm, ho.ext⟩
  · have HT : Hid (told ls i = seek (fun j => decide (bt (gs ls j) k = 42)) i (i + 1) (n - (i + 1))) := by show _ = _; rw [told_one hS, HL.out]
    have HS := Lib.hid hS
    have hkz : k < (gs ls 0).size := by omega
    clear hS
    generalize gs ls i = s at *
    go_enter Try.func63, Try.ntmps63
    go_wp2_with (first | (go_at_call 86; (with_reducible refine (starsOf_any _ _ g2 g3).mono ?_); rw [HS.out]; rintro e w1 ⟨A1, c1, rfl, ho⟩))
    have hx := ho.ext
    have hrow1 := ho.row
    obtain ⟨g, rfl⟩ := hrow1.form (by simp)
    obtain ⟨ck, _⟩ := hrow1.cellAt (p := 0) (by simp)
    simp at ck
    go_loopw [6] (fun q wr => ∃ j : Nat, i + 1 ≤ j ∧ j ≤ n ∧ q = .int .i64 j ∧ told ls i = seek (fun j => decide (bt (gs ls j) k = 42)) i j (n - j) ∧ Qt w1 wr) (fun q _ => n - (intOf q).toNat)
    case atStart => exact ⟨i + 1, by omega, by omega, by go_num, HT.out, Qt.refl _⟩
    case round =>
      obtain ⟨j, hj1, hj, rfl, htd, mm, rfl⟩ := hrel
      have HD := Lib.hid htd
      clear htd
      by_cases hjl : j < n
      · have hji : (j : Int) < n := by omega
        have c1 := hx.cell hb (HC.out j hjl)
        obtain ⟨r1, _⟩ := HROW.out j hjl
        have hkj : k < (gs ls j).size := by omega
        have hkji : (k : Int) < (gs ls j).size := by omega
        have hbk := bt_eq hkj
        by_cases h1 : bt (gs ls j) k = 42
        · have HR : Hid (told ls i = (j : Int) - i) := by show _ = _; rw [HD.out]; exact seek_hit (by omega) (decide_eq_true h1)
          have e1 : ((((gs ls j)[k].toNat : Nat) : Int) == 42) = true := by rw [hbk, h1]; rfl
          clear hbk h1
          generalize gs ls j = t at *
          go_wp2
          go_quiet (fail)
          go_wp2
          go_ret
          exact ⟨ret_int HR.out.symm, Ext.qt hx (by first | exact ⟨_, rfl⟩ | exact ⟨_, World.drewN_drewN _ _ _⟩)⟩
        · have HR : Hid (told ls i = seek (fun j => decide (bt (gs ls j) k = 42)) i (j + 1) (n - (j + 1))) := by show _ = _; rw [HD.out, seek_miss (decide_eq_false h1) (by omega), show n - j - 1 = n - (j + 1) by omega]
          have e1 : ((((gs ls j)[k].toNat : Nat) : Int) == 42) = false := by rw [hbk]; simp; omega
          clear hbk h1
          generalize gs ls j = t at *
          go_wp2
          go_quiet (fail)
          go_wp2
          go_roundw
          case rel => exact ⟨j + 1, by omega, by omega, by go_num, HR.out, (by first | exact ⟨_, rfl⟩ | exact ⟨_, World.drewN_drewN _ _ _⟩)⟩
          case measure => simp [intOf]; omega
      · obtain rfl : j = n := by omega
        have HR : Hid (told ls i = -1) := by show _ = _; rw [HD.out, Nat.sub_self]; rfl
        go_wp2
        go_ret
        exact ⟨ret_int HR.out.symm, Ext.qt hx (by first | exact ⟨_, rfl⟩ | exact ⟨_, World.drewN_drewN _ _ _⟩)⟩
  · have HT : Hid (told ls i = -1) := told_more hS
    have hll := stl_len (gs ls i) (gs ls i).size
    obtain ⟨m, hm⟩ : ∃ m, (stl (gs ls i) (gs ls i).size).length = m := ⟨_, rfl⟩
    have HS := Lib.hid hm
    rw [hm] at hS hll
    clear hm
    have hm0 : ((m : Int) == 0) = false := by simp; omega
    have hm1 : ((m : Int) == 1) = false := by simp; omega
    generalize gs ls i = s at *
    go_enter Try.func63, Try.ntmps63
    go_wp2_with (first | (go_at_call 86; (with_reducible refine (starsOf_any _ _ g2 g3).mono ?_); rw [HS.out]; rintro e w1 ⟨A1, c1, rfl, ho⟩))
    go_ret
    exact ⟨ret_int HT.out.symm, ho.ext⟩
theorem toldThrow_is (A : Option Addr) (n c : Nat) (ls : List ByteArray) (i : Nat) (w : World) (hI : Strs w A n ls) (hf : Hid (lfm ls = true)) (hi : i < n) (v : Int) (h : Hid (told ls i = v)) :
    Calls Try.prog 63 #[.slice A n c, .int .i64 i] w fun e w' => e = .returned (.int .i64 v) ∧ Ext w w' := by
  rw [← h.out]
  exact toldThrow_any A n c ls i w hI hf.out hi
end Go.Proofs.Ytendemigegjbfaa
