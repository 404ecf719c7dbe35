/- A column of a picture: contracts of ColumnOf. No condition but the stated bounds. -/
import Derived.Test.YtendemigegjbfaaLin2
import Derived.Test.YtendemigegjbfaaByt
namespace Go.Proofs.Ytendemigegjbfaa
set_option linter.unusedVariables false
set_option linter.unusedSimpArgs false
open Go.RowKit Go.Joins

/-- The bytes of column c of the first k lines. -/
def cob (ls : List ByteArray) (c k : Nat) : List UInt8 := (List.range k).map fun i => (gs ls i).data[c + 2]?.getD 0
theorem cob_succ (ls : List ByteArray) (c k : Nat) : cob ls c (k + 1) = cob ls c k ++ [(gs ls k).data[c + 2]?.getD 0] := by simp [cob, List.range_succ]
/-- The code of ColumnOf. -/
def coc (ls : List ByteArray) (c : Int) : Int := if lfm ls = true then (if ls.length = 0 ∨ btw c 0 (((gs ls 0).size : Int) - 3) = false then 2 else 0) else 7
/-- What ColumnOf gives. -/
def cos (ls : List ByteArray) (c : Int) : ByteArray := if coc ls c = 0 then ⟨(cob ls c.toNat ls.length).toArray⟩ else ⟨#[]⟩
/-- What is handed back. -/
def ColR (ls : List ByteArray) (c : Int) (w : World) (e : Ending) (w' : World) : Prop := e = .returned (.tuple #[.string (cos ls c), .int .i64 (coc ls c)]) ∧ Ext w w'
set_option maxHeartbeats 1000000 in
set_option maxRecDepth 100000 in
theorem implColumnOf_ret (A : Option Addr) (n c : Nat) (ls : List ByteArray) (q : Int) (w : World) (hI : Strs w A n ls) :
    Calls Try.prog 15 #[.slice A n c, .int .i64 q] w (ColR ls q w) := by
  have HL := Lib.hid hI.len
  have hsm := hI.small
  unfold ColR
  cases hf : lfm ls
  · have HC : Hid (coc ls q = 7) := by show _ = _; unfold coc; rw [hf]; rfl
    have HS : Hid (cos ls q = ⟨#[]⟩) := by show _ = _; unfold cos; rw [HC.out]; rfl
    have HF := Lib.hid hf
    clear hf
    go_enter Try.func15, Try.ntmps15
    go_wp2_with (first | (go_at_call 46; (with_reducible refine (isPicture_is _ _ _ ls _ hI _ HF.out).mono ?_); rintro e w' ⟨rfl, rfl⟩))
    go_ret2
    rw [HC.out, HS.out]
    exact ⟨rfl, (by with_reducible (repeat (first | exact Ext.refl _ | apply Ext.drewN | apply Ext.drew | apply Ext.alloc | (refine Ext.set ?_ (by first | (simp; done) | (simp; omega) | omega) _) | (refine Ext.trans ?_ (by assumption)))))⟩
  · have HF := Lib.hid hf
    obtain ⟨hrow, h60⟩ := lfm_iff hf
    rw [hI.len] at hrow h60
    have HROW := Lib.hid hrow
    rcases Nat.eq_zero_or_pos n with h0 | hn
    · subst h0
      have HC : Hid (coc ls q = 2) := by show _ = _; unfold coc; rw [hf, if_pos rfl, if_pos (.inl HL.out)]
      have HS : Hid (cos ls q = ⟨#[]⟩) := by show _ = _; unfold cos; rw [HC.out]; rfl
      clear hf hrow
      go_enter Try.func15, Try.ntmps15
      go_wp2_with (first | (go_at_call 46; (with_reducible refine (isPicture_is _ _ _ ls _ hI _ HF.out).mono ?_); rintro e w' ⟨rfl, rfl⟩))
      go_ret2
      rw [HC.out, HS.out]
      exact ⟨rfl, (by with_reducible (repeat (first | exact Ext.refl _ | apply Ext.drewN | apply Ext.drew | apply Ext.alloc | (refine Ext.set ?_ (by first | (simp; done) | (simp; omega) | omega) _) | (refine Ext.trans ?_ (by assumption)))))⟩
    · obtain ⟨b, off, hA, hb, hcell⟩ := hI.at_ (by omega)
      subst hA
      have c0 := hcell 0 (by omega)
      rw [Nat.add_zero] at c0
      have HCELL := Lib.hid hcell
      have hsz := hI.sz 0
      have hn0 : ((n : Int) == 0) = false := by simp; omega
      have hni : (0 : Int) < n := by omega
      clear hcell hrow
      cases hbt : btw q 0 (((gs ls 0).size : Int) - 3)
      · have HC : Hid (coc ls q = 2) := by show _ = _; unfold coc; rw [hf, if_pos rfl, if_pos (.inr hbt)]
        have HS : Hid (cos ls q = ⟨#[]⟩) := by show _ = _; unfold cos; rw [HC.out]; rfl
        have HB := Lib.hid hbt
        clear hf hbt
        generalize gs ls 0 = z at *
        go_enter Try.func15, Try.ntmps15
        go_wp2_with (first | (go_at_call 46; (with_reducible refine (isPicture_is _ _ _ ls _ hI _ HF.out).mono ?_); rintro e w' ⟨rfl, rfl⟩) | (go_at_call 47; (with_reducible refine (between_is _ _ _ _ HB.out _).mono ?_); rintro e w' ⟨rfl, rfl⟩))
        go_ret2
        rw [HC.out, HS.out]
        exact ⟨rfl, (by with_reducible (repeat (first | exact Ext.refl _ | apply Ext.drewN | apply Ext.drew | apply Ext.alloc | (refine Ext.set ?_ (by first | (simp; done) | (simp; omega) | omega) _) | (refine Ext.trans ?_ (by assumption)))))⟩
      · have HC : Hid (coc ls q = 0) := by show _ = _; unfold coc; rw [hf, if_pos rfl, if_neg (by rw [hbt, HL.out]; simp; omega)]
        have hq := btw_iff.1 hbt
        obtain ⟨k, rfl⟩ : ∃ k : Nat, q = k := ⟨q.toNat, by omega⟩
        have HS : Hid (cos ls k = ⟨(cob ls k n).toArray⟩) := by show _ = _; unfold cos; rw [if_pos HC.out, HL.out, Int.toNat_natCast]
        have HB := Lib.hid hbt
        have hkz : k + 2 < (gs ls 0).size := by omega
        have hz17 : (gs ls 0).size ≤ 17 := (HROW.out 0 hn).2.2.1
        clear hf hbt
        generalize hz : gs ls 0 = z at *
        go_enter Try.func15, Try.ntmps15
        go_wp2_with (first | (go_at_call 46; (with_reducible refine (isPicture_is _ _ _ ls _ hI _ HF.out).mono ?_); rintro e w' ⟨rfl, rfl⟩) | (go_at_call 47; (with_reducible refine (between_is _ _ _ _ HB.out _).mono ?_); rintro e w' ⟨rfl, rfl⟩))
        go_loopw [6, 28, 8] (fun v i _ wr => ∃ j : Nat, j ≤ n ∧ i = .int .i64 j ∧ OwnG 5 1 w wr v j (bcs (cob ls k j))) (fun v i _ _ => n - (intOf i).toNat)
        case atStart => exact ⟨0, by omega, rfl, ownG_empty (Ext.refl _) _ _⟩
        case round =>
          obtain ⟨j, hj, rfl, hown⟩ := hrel
          have hx := hown.ext
          by_cases hlt : j < n
          · have hji : (j : Int) < n := by omega
            have c1 := hx.cell hb (HCELL.out j hlt)
            have hjz : k + 2 < (gs ls j).size := by rw [(HROW.out j hlt).1]; exact hkz
            have hjzi : (k : Int) + 2 < (gs ls j).size := by omega
            have HB2 : Hid (cob ls k (j + 1) = cob ls k j ++ [(gs ls j)[k + 2]]) := by
              show _ = _
              rw [cob_succ, Array.getElem?_eq_getElem (by exact hjz)]
              rfl
            have HA : Hid (bcs (cob ls k (j + 1)) = bcs (cob ls k j) ++ [.int .u8 ((gs ls j)[k + 2].toNat : Int)]) := by show _ = _; rw [HB2.out, bcs_append]; rfl
            generalize gs ls j = t at *
            go_wp2_with (first | (at_builtin; refine appG elByte (by omega) rfl _ _ Try.underlying22 rfl rfl (hown.trans (by with_reducible (repeat (first | exact Ext.refl _ | apply Ext.drewN | apply Ext.drew | apply Ext.alloc | (refine Ext.set ?_ (by first | (simp; done) | (simp; omega) | omega) _) | (refine Ext.trans ?_ (by assumption)))))) (by omega) rfl (heap_alloc_new _ _) (ys := [.int .u8 (t[k + 2].toNat : Int)]) (by rfl) (by rfl) (by simp [Value.oneCell']) ?_; intro v' w3 hown'))
            go_roundw
            case rel => exact ⟨j + 1, by omega, by go_num, by rw [HA.out]; exact hown'⟩
            case measure => simp [intOf]; omega
          · obtain rfl : j = n := by omega
            obtain ⟨g, c3, rfl, hcv⟩ := conv_bytes hown hn
            go_wp2
            go_ret2
            rw [HC.out, HS.out]
            exact ⟨rfl, hx⟩
set_option maxHeartbeats 1000000 in
set_option maxRecDepth 100000 in
theorem specColumnOf_ret (A : Option Addr) (n c : Nat) (ls : List ByteArray) (q : Int) (w : World) (hI : Strs w A n ls) :
    Calls Try.prog 16 #[.slice A n c, .int .i64 q] w (ColR ls q w) := by
  have HL := Lib.hid hI.len
  have hsm := hI.small
  unfold ColR
  cases hf : lfm ls
  · have HC : Hid (coc ls q = 7) := by show _ = _; unfold coc; rw [hf]; rfl
    have HS : Hid (cos ls q = ⟨#[]⟩) := by show _ = _; unfold cos; rw [HC.out]; rfl
    have HF := Lib.hid hf
    clear hf
    go_enter Try.func16, Try.ntmps16
    go_wp2_with (first | (go_at_call 48; (with_reducible refine (l18Form_is _ _ _ ls _ hI _ HF.out).mono ?_); rintro e w' ⟨rfl, rfl⟩))
    go_ret2
    rw [HC.out, HS.out]
    exact ⟨rfl, (by with_reducible (repeat (first | exact Ext.refl _ | apply Ext.drewN | apply Ext.drew | apply Ext.alloc | (refine Ext.set ?_ (by first | (simp; done) | (simp; omega) | omega) _) | (refine Ext.trans ?_ (by assumption)))))⟩
  · have HF := Lib.hid hf
    obtain ⟨hrow, h60⟩ := lfm_iff hf
    rw [hI.len] at hrow h60
    have HROW := Lib.hid hrow
    rcases Nat.eq_zero_or_pos n with h0 | hn
    · subst h0
      have HC : Hid (coc ls q = 2) := by show _ = _; unfold coc; rw [hf, if_pos rfl, if_pos (.inl HL.out)]
      have HS : Hid (cos ls q = ⟨#[]⟩) := by show _ = _; unfold cos; rw [HC.out]; rfl
      clear hf hrow
      go_enter Try.func16, Try.ntmps16
      go_wp2_with (first | (go_at_call 48; (with_reducible refine (l18Form_is _ _ _ ls _ hI _ HF.out).mono ?_); rintro e w' ⟨rfl, rfl⟩))
      go_ret2
      rw [HC.out, HS.out]
      exact ⟨rfl, (by with_reducible (repeat (first | exact Ext.refl _ | apply Ext.drewN | apply Ext.drew | apply Ext.alloc | (refine Ext.set ?_ (by first | (simp; done) | (simp; omega) | omega) _) | (refine Ext.trans ?_ (by assumption)))))⟩
    · obtain ⟨b, off, hA, hb, hcell⟩ := hI.at_ (by omega)
      subst hA
      have c0 := hcell 0 (by omega)
      rw [Nat.add_zero] at c0
      have HCELL := Lib.hid hcell
      have hsz := hI.sz 0
      have hn0 : ((n : Int) == 0) = false := by simp; omega
      have hni : (0 : Int) < n := by omega
      clear hcell hrow
      cases hbt : btw q 0 (((gs ls 0).size : Int) - 3)
      · have HC : Hid (coc ls q = 2) := by show _ = _; unfold coc; rw [hf, if_pos rfl, if_pos (.inr hbt)]
        have HS : Hid (cos ls q = ⟨#[]⟩) := by show _ = _; unfold cos; rw [HC.out]; rfl
        have HB := Lib.hid hbt
        clear hf hbt
        generalize gs ls 0 = z at *
        go_enter Try.func16, Try.ntmps16
        go_wp2_with (first | (go_at_call 48; (with_reducible refine (l18Form_is _ _ _ ls _ hI _ HF.out).mono ?_); rintro e w' ⟨rfl, rfl⟩) | (go_at_call 44; (with_reducible refine (l00In_is _ _ _ _ HB.out _).mono ?_); rintro e w' ⟨rfl, rfl⟩))
        go_ret2
        rw [HC.out, HS.out]
        exact ⟨rfl, (by with_reducible (repeat (first | exact Ext.refl _ | apply Ext.drewN | apply Ext.drew | apply Ext.alloc | (refine Ext.set ?_ (by first | (simp; done) | (simp; omega) | omega) _) | (refine Ext.trans ?_ (by assumption)))))⟩
      · have HC : Hid (coc ls q = 0) := by show _ = _; unfold coc; rw [hf, if_pos rfl, if_neg (by rw [hbt, HL.out]; simp; omega)]
        have hq := btw_iff.1 hbt
        obtain ⟨k, rfl⟩ : ∃ k : Nat, q = k := ⟨q.toNat, by omega⟩
        have HS : Hid (cos ls k = ⟨(cob ls k n).toArray⟩) := by show _ = _; unfold cos; rw [if_pos HC.out, HL.out, Int.toNat_natCast]
        have HB := Lib.hid hbt
        have hkz : k + 2 < (gs ls 0).size := by omega
        have hz17 : (gs ls 0).size ≤ 17 := (HROW.out 0 hn).2.2.1
        clear hf hbt
        generalize hz : gs ls 0 = z at *
        go_enter Try.func16, Try.ntmps16
        go_wp2_with (first | (go_at_call 48; (with_reducible refine (l18Form_is _ _ _ ls _ hI _ HF.out).mono ?_); rintro e w' ⟨rfl, rfl⟩) | (go_at_call 44; (with_reducible refine (l00In_is _ _ _ _ HB.out _).mono ?_); rintro e w' ⟨rfl, rfl⟩))
        go_loopw [6, 7] (fun v i wr => ∃ j : Nat, j ≤ n ∧ i = .int .i64 j ∧ OwnG 5 1 w wr v j (bcs (cob ls k j))) (fun v i _ => n - (intOf i).toNat)
        case atStart => exact ⟨0, by omega, rfl, ownG_empty (Ext.refl _) _ _⟩
        case round =>
          obtain ⟨j, hj, rfl, hown⟩ := hrel
          have hx := hown.ext
          by_cases hlt : j < n
          · have hji : (j : Int) < n := by omega
            have c1 := hx.cell hb (HCELL.out j hlt)
            have hjz : k + 2 < (gs ls j).size := by rw [(HROW.out j hlt).1]; exact hkz
            have hjzi : (k : Int) + 2 < (gs ls j).size := by omega
            have HB2 : Hid (cob ls k (j + 1) = cob ls k j ++ [(gs ls j)[k + 2]]) := by
              show _ = _
              rw [cob_succ, Array.getElem?_eq_getElem (by exact hjz)]
              rfl
            have HA : Hid (bcs (cob ls k (j + 1)) = bcs (cob ls k j) ++ [.int .u8 ((gs ls j)[k + 2].toNat : Int)]) := by show _ = _; rw [HB2.out, bcs_append]; rfl
            generalize gs ls j = t at *
            go_wp2_with (first | (at_builtin; refine appG elByte (by omega) rfl _ _ Try.underlying22 rfl rfl (hown.trans (by with_reducible (repeat (first | exact Ext.refl _ | apply Ext.drewN | apply Ext.drew | apply Ext.alloc | (refine Ext.set ?_ (by first | (simp; done) | (simp; omega) | omega) _) | (refine Ext.trans ?_ (by assumption)))))) (by omega) rfl (heap_alloc_new _ _) (ys := [.int .u8 (t[k + 2].toNat : Int)]) (by rfl) (by rfl) (by simp [Value.oneCell']) ?_; intro v' w3 hown'))
            go_roundw
            case rel => exact ⟨j + 1, by omega, by go_num, by rw [HA.out]; exact hown'⟩
            case measure => simp [intOf]; omega
          · obtain rfl : j = n := by omega
            obtain ⟨g, c3, rfl, hcv⟩ := conv_bytes hown hn
            go_wp2
            go_ret2
            rw [HC.out, HS.out]
            exact ⟨rfl, hx⟩
end Go.Proofs.Ytendemigegjbfaa
