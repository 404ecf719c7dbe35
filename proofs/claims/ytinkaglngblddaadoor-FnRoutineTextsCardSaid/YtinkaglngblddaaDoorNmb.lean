/- Numbers out of their decimal forms: contracts of the program's ReadDecimal and of the reference's l01Number. No condition but the stated bounds. -/
import Derived.Test.YtinkaglngblddaaDoorWrd
import Derived.Test.YtinkaglngblddaaDoorTxt
namespace Go.Proofs.YtinkaglngblddaaDoor
set_option linter.unusedVariables false
set_option linter.unusedSimpArgs false
open Go.RowKit Go.Joins

/-- The value of digits. -/
def dval (l : List UInt8) : Int := l.foldl (fun n b => 10 * n + ((b.toNat : Int) - 48)) 0
def isDg (b : UInt8) : Bool := decide (48 ≤ b.toNat ∧ b.toNat ≤ 57)
theorem isDg_iff {b : UInt8} : isDg b = true ↔ 48 ≤ b.toNat ∧ b.toNat ≤ 57 := by simp [isDg]
theorem dval_snoc (l : List UInt8) (b : UInt8) : dval (l ++ [b]) = 10 * dval l + ((b.toNat : Int) - 48) := by simp [dval]
theorem dval_bd' : ∀ (l : List UInt8) (a : Int), l.all isDg = true → 0 ≤ a → 0 ≤ l.foldl (fun n b => 10 * n + ((b.toNat : Int) - 48)) a ∧ l.foldl (fun n b => 10 * n + ((b.toNat : Int) - 48)) a < (a + 1) * (10 ^ l.length : Nat)
  | [], a, _, h0 => by simp; omega
  | b :: l, a, h, h0 => by
    rw [List.all_cons, Bool.and_eq_true] at h
    have h3 := isDg_iff.1 h.1
    have h1 := dval_bd' l (10 * a + ((b.toNat : Int) - 48)) h.2 (by omega)
    refine ⟨h1.1, Int.lt_of_lt_of_le h1.2 ?_⟩
    rw [List.length_cons, Nat.pow_succ]
    have h4 : (10 * a + ((b.toNat : Int) - 48) + 1) * ((10 ^ l.length : Nat) : Int) ≤ (10 * a + 10) * ((10 ^ l.length : Nat) : Int) := Int.mul_le_mul_of_nonneg_right (by omega) (Int.natCast_nonneg _)
    refine Int.le_trans h4 (Int.le_of_eq ?_)
    rw [show (10 * a + 10) = (a + 1) * 10 by omega, Int.natCast_mul, Int.mul_assoc, Int.mul_comm 10]
    rfl
theorem dval_bd (l : List UInt8) (h : l.all isDg = true) : 0 ≤ dval l ∧ dval l < (10 ^ l.length : Nat) := by
  have := dval_bd' l 0 h (by omega)
  simpa [dval] using this
theorem emptyN (t : ByteArray) (h : 0 < t.size) : t.toList.isEmpty = false := by
  rw [ByteArray.toList_eq]
  cases hl : t.data.toList with
  | nil => exact absurd (show t.size = 0 by have h1 := congrArg List.length hl; simpa using h1) (by omega)
  | cons _ _ => rfl
theorem dval_small {l : List UInt8} (h : l.all isDg = true) (hl : l.length ≤ 17) : 0 ≤ dval l ∧ dval l ≤ 99999999999999999 := by
  have h1 := dval_bd l h
  have h2 : 10 ^ l.length ≤ 10 ^ 17 := Nat.pow_le_pow_right (by omega) hl
  omega
theorem dval_small2 {l : List UInt8} (h : l.all isDg = true) (hl : l.length ≤ 18) : 0 ≤ dval l ∧ dval l ≤ 999999999999999999 := by
  have h1 := dval_bd l h
  have h2 : 10 ^ l.length ≤ 10 ^ 18 := Nat.pow_le_pow_right (by omega) hl
  omega
theorem neqB {a b : ByteArray} (h : ¬ a = b) : (a.toList == b.toList) = false := by
  refine beq_eq_false_iff_ne.2 fun e => h ?_
  rw [ByteArray.toList_eq, ByteArray.toList_eq] at e
  exact ByteArray.ext (Array.ext' e)
/-- The digits of a decimal form. -/
def numT (s : ByteArray) : ByteArray := if s.data[0]? = some 45 then s.extract 1 s.size else s
/-- The number of a decimal form. -/
def numV (s : ByteArray) : Int := if s.data[0]? = some 45 then -dval (numT s).data.toList else dval (numT s).data.toList
def numOk (s : ByteArray) : Prop := (1 ≤ (numT s).size ∧ (numT s).size ≤ 18) ∧ (numT s).data.toList.all isDg = true ∧ dec (numV s) = s
/-- A decimal form's number, and whether there is one. -/
def Nmb (s : ByteArray) (n : Int) (r : Bool) : Prop := (r = true ∧ numOk s ∧ n = numV s) ∨ (r = false ∧ ¬ numOk s ∧ n = 0)
theorem nmb_ex (s : ByteArray) : ∃ n r, Nmb s n r := by
  by_cases h : numOk s
  · exact ⟨_, _, .inl ⟨rfl, h, rfl⟩⟩
  · exact ⟨_, _, .inr ⟨rfl, h, rfl⟩⟩
theorem numOk_bd {s : ByteArray} (h : numOk s) : -999999999999999999 ≤ numV s ∧ numV s ≤ 999999999999999999 := by
  obtain ⟨⟨_, h1⟩, h2, _⟩ := h
  have := dval_small2 h2 (by simpa using h1)
  unfold numV
  split <;> omega
theorem nmb_bd {s : ByteArray} {n : Int} {r : Bool} (h : Nmb s n r) : -999999999999999999 ≤ n ∧ n ≤ 999999999999999999 := by
  rcases h with ⟨_, h, rfl⟩ | ⟨_, _, rfl⟩
  · exact numOk_bd h
  · omega
/-- A decimal form has digits and at most a stroke in front. -/
theorem numOk_byte {s : ByteArray} (h : numOk s) {c : UInt8} (hc : c ≠ 45) (hd : isDg c = false) : noB s c 0 s.size := by
  intro j _ hj he
  have hall := h.2.1
  unfold numT at hall
  split at hall
  · rename_i h0
    by_cases e : j = 0
    · subst e
      rw [h0] at he
      cases he
      exact hc rfl
    · have hm : c ∈ (s.extract 1 s.size).data.toList := by
        rw [ext_list]
        refine List.mem_iff_getElem?.2 ⟨j - 1, ?_⟩
        rw [List.getElem?_take, if_pos (by omega), List.getElem?_drop, show 1 + (j - 1) = j by omega]
        rw [← he]
        simp
      have := List.all_eq_true.1 hall c hm
      rw [hd] at this
      cases this
  · have hm : c ∈ s.data.toList := by
      refine List.mem_iff_getElem?.2 ⟨j, ?_⟩
      rw [← he]
      simp
    have := List.all_eq_true.1 hall c hm
    rw [hd] at this
    cases this
theorem take_at {s : ByteArray} {k : Nat} (h : k < s.size) : s.data.toList.take (k + 1) = s.data.toList.take k ++ [s[k]] := by
  rw [List.take_succ_eq_append_getElem (by simpa using h)]; rfl
theorem implNumber_dig (x : UInt8) (v : Bool) (h : isDg x = v) (w : World) :
    Calls Tryd.prog 64 #[.int .u8 (x.toNat : Int)] w fun e w' => e = .returned (.bool v) ∧ w = w' := by
  subst h
  have hx : x.toNat < 256 := x.toNat_lt
  unfold isDg
  by_cases h1 : (48 : Int) ≤ (x.toNat : Int)
  · by_cases h2 : (x.toNat : Int) ≤ 57
    · rw [decide_eq_true (show 48 ≤ x.toNat ∧ x.toNat ≤ 57 by omega)]
      go_enter Tryd.func64, Tryd.ntmps64
      go_wp2
      go_ret
      exact ⟨rfl, rfl⟩
    · rw [decide_eq_false (show ¬ (48 ≤ x.toNat ∧ x.toNat ≤ 57) by omega)]
      go_enter Tryd.func64, Tryd.ntmps64
      go_wp2
      go_ret
      exact ⟨rfl, rfl⟩
  · rw [decide_eq_false (show ¬ (48 ≤ x.toNat ∧ x.toNat ≤ 57) by omega)]
    go_enter Tryd.func64, Tryd.ntmps64
    go_wp2
    go_ret
    exact ⟨rfl, rfl⟩
set_option maxHeartbeats 4000000 in
set_option maxRecDepth 100000 in
theorem implNumber_neg (s : ByteArray) (w : World) (hs : s.size ≤ 2000000) (h45 : s.data[0]? = some 45) (hT : Tab w) (n : Int) (r : Bool) (hN : Nmb s n r) :
    Calls Tryd.prog 34 #[.string s] w fun e w' => e = .returned (.tuple #[.int .i64 n, .bool r]) ∧ Ext w w' := by
  have HT : Hid (numT s = s.extract 1 s.size) := by show _ = _; unfold numT; rw [if_pos h45]
  have HV : Hid (numV s = -dval (s.extract 1 s.size).data.toList) := by show _ = _; unfold numV; rw [if_pos h45, HT.out]
  have hsz : 0 < s.size := (Array.getElem?_eq_some_iff.1 h45).1
  have h0 : s[0] = 45 := by have := byte_at hsz; rw [this] at h45; exact Option.some.inj h45
  have h0n : s[0].toNat = 45 := by rw [h0]; rfl
  have hne := emptyN s hsz
  clear h45 h0
  have HN := Lib.hid hN
  clear hN

  obtain ⟨t, ht⟩ : ∃ t, s.extract 1 s.size = t := ⟨_, rfl⟩
  rw [ht] at HT HV
  have hts : t.size = s.size - 1 := by rw [← ht]; simp [ByteArray.size_extract]
  have hx1 : (s.extract 1 s.size) = t := ht
  have HX1 := Lib.hid hx1
  clear hx1
  have HB : Hid ((t.size = 0 ∨ 18 < t.size) → n = 0 ∧ r = false) := fun hb => by
    rcases HN.out with ⟨_, h, _⟩ | ⟨h1, _, h2⟩
    · have := h.1; rw [HT.out] at this; omega
    · exact ⟨h2, h1⟩
  have HD : Hid (t.data.toList.all isDg = false → n = 0 ∧ r = false) := fun hb => by
    rcases HN.out with ⟨_, h, _⟩ | ⟨h1, _, h2⟩
    · have := h.2.1; rw [HT.out, hb] at this; cases this
    · exact ⟨h2, h1⟩
  clear ht
  by_cases hlen : t.size = 0 ∨ 18 < t.size
  · obtain ⟨rfl, rfl⟩ := HB.out hlen
    clear HN HB HD
    have hTZ : s.size = 1 ∨ 19 < s.size := by omega
    clear hlen
    go_enter Tryd.func34, Tryd.ntmps34
    rcases hTZ with hq | hq
    · have i1 : (1 : Int) ≤ s.size := by omega
      have e1 : (((s.size - 1 : Nat) : Int) == 0) = true := by rw [hq]; rfl
      have e4 : ((s.size - 1 : Nat) : Int) < 1 := by omega
      clear hq
      go_wp2
      go_ret2
      exact ⟨rfl, Ext.refl _⟩
    · have i1 : (1 : Int) ≤ s.size := by omega
      have e2 : (18 : Int) < ((s.size - 1 : Nat) : Int) := by omega
      have e1 : (((s.size - 1 : Nat) : Int) == 0) = false := beq_eq_false_iff_ne.2 (by omega)
      have e4 : ¬ ((s.size - 1 : Nat) : Int) < 1 := by omega
      clear hq
      go_wp2
      go_ret2
      exact ⟨rfl, Ext.refl _⟩
  have hl1 : 1 ≤ t.size ∧ t.size ≤ 18 := by omega
  clear HB hlen
  have i1 : (1 : Int) ≤ s.size := by omega
  have e1 : (((s.size - 1 : Nat) : Int) == 0) = false := beq_eq_false_iff_ne.2 (by omega)
  have f1 : ((s.size : Int) == 0) = false := beq_eq_false_iff_ne.2 (by omega)
  have f2 : (s.size == 0) = false := beq_eq_false_iff_ne.2 (by omega)
  have e4 : ¬ ((s.size - 1 : Nat) : Int) < 1 := by omega
  have e2 : ¬ (18 : Int) < ((s.size - 1 : Nat) : Int) := by omega
  go_enter Tryd.func34, Tryd.ntmps34
  go_wp2
  rw [HX1.out]
  clear e1 e2 e4
  go_loop [5, 28] (fun v i => ∃ k : Nat, k ≤ t.size ∧ i = .int .i64 k ∧ v = .int .i64 (dval (t.data.toList.take k)) ∧ Hid ((t.data.toList.take k).all isDg = true)) (fun _ i => t.size - (intOf i).toNat)
  case atStart => exact ⟨0, Nat.zero_le _, rfl, rfl, rfl⟩
  case round =>
    obtain ⟨k, hk, rfl, rfl, HA⟩ := hrel
    by_cases hlt : k < t.size
    · have hki : (k : Int) < t.size := by omega
      have htk := take_at hlt
      have hv := dval_small HA.out (by rw [List.length_take]; omega)
      obtain ⟨x, hx⟩ : ∃ x, t[k] = x := ⟨_, rfl⟩
      rw [hx] at htk
      have HTK := Lib.hid htk
      have HALL : Hid (isDg x = false → t.data.toList.all isDg = false) := fun hd => by
        rw [← List.take_append_drop (k + 1) t.data.toList, List.all_append, HTK.out, List.all_append]
        simp [hd]
      obtain ⟨z, hz⟩ : ∃ z, dval (t.data.toList.take k) = z := ⟨_, rfl⟩
      rw [hz] at hv
      have HZ := Lib.hid hz
      rw [hz]
      clear htk hz
      cases hd : isDg x
      · obtain ⟨rfl, rfl⟩ := HD.out (HALL.out hd)
        have HDX := Lib.hid hd
        clear hd HN HD HALL
        go_wp2_with fail
        (with_reducible refine (implNumber_dig x false HDX.out _).mono ?_)
        rintro e w' ⟨rfl, rfl⟩
        go_wp2
        go_ret2
        exact ⟨rfl, Ext.refl _⟩
      · have hb := isDg_iff.1 hd
        have HDX := Lib.hid hd
        have i3 : (48 : Int) ≤ (x.toNat : Int) := by omega
        have i4 : (x.toNat : Int) ≤ 57 := by omega
        have HS : Hid (dval (t.data.toList.take (k + 1)) = 10 * z + ((x.toNat : Int) - 48)) := by show _ = _; rw [HTK.out, dval_snoc, HZ.out]
        have HA2 : Hid ((t.data.toList.take (k + 1)).all isDg = true) := by show _ = _; rw [HTK.out, List.all_append, HA.out]; simp [hd]
        clear hd hb
        go_wp2_with fail
        (with_reducible refine (implNumber_dig x true HDX.out _).mono ?_)
        rintro e w' ⟨rfl, rfl⟩
        go_wp2
        go_round
        case rel => exact ⟨k + 1, by omega, by go_num, by rw [HS.out], HA2.out⟩
        case measure => simp [intOf]; omega
    · obtain rfl : k = t.size := by omega
      have HF : Hid (t.data.toList.take t.size = t.data.toList) := List.take_of_length_le (by simp)
      rw [HF.out] at HA ⊢
      have hv := dval_small2 HA.out (by simp; omega)
      obtain ⟨z, hz⟩ : ∃ z, dval t.data.toList = z := ⟨_, rfl⟩
      rw [hz] at hv ⊢
      have hzV : numV s = -z := by rw [HV.out, hz]
      have HZV := Lib.hid hzV
      clear hz hzV HD
      by_cases hq : dec (-z) = s
      · have hr : n = -z ∧ r = true := by
          have hok : numOk s := ⟨by rw [HT.out]; exact hl1, by rw [HT.out]; exact HA.out, by rw [HZV.out]; exact hq⟩
          rcases HN.out with ⟨h1, _, h2⟩ | ⟨_, h1, _⟩
          · exact ⟨by rw [h2, HZV.out], h1⟩
          · exact absurd hok h1
        obtain ⟨hnz, rfl⟩ := hr
        have HNZ := Lib.hid hnz
        clear hnz
        clear HN
        have CD := Lib.hid (fun W hW => (DecimalT_any (-z) (by omega) W hW : Calls Tryd.prog 26 #[.int .i64 (-z)] W _))
        rw [hq] at CD
        have HQ := Lib.hid hq
        clear hq
        have k9 : ((s.size - 1 : Nat) : Int) < (s.size : Int) := by omega
        go_wp2_with fail
        (with_reducible refine (CD.out _ (hT.ext (by with_reducible (repeat (first | exact Ext.refl _ | apply Ext.drewN | apply Ext.drew | apply Ext.alloc | (refine Ext.set ?_ (by first | (simp; done) | (simp; omega) | omega) _) | (refine Ext.trans ?_ (by assumption))))))).mono ?_)
        rintro e w1 ⟨rfl, hx1⟩
        go_wp2
        go_ret2
        exact ⟨(by rw [HNZ.out]; rfl), Ext.trans (by with_reducible (repeat (first | exact Ext.refl _ | apply Ext.drewN | apply Ext.drew | apply Ext.alloc | (refine Ext.set ?_ (by first | (simp; done) | (simp; omega) | omega) _) | (refine Ext.trans ?_ (by assumption))))) hx1⟩
      · have hr : n = 0 ∧ r = false := by
          rcases HN.out with ⟨_, h1, _⟩ | ⟨h1, _, h2⟩
          · exact absurd (by have := h1.2.2; rwa [HZV.out] at this) hq
          · exact ⟨h2, h1⟩
        obtain ⟨rfl, rfl⟩ := hr
        clear HN
        have CD := Lib.hid (fun W hW => (DecimalT_any (-z) (by omega) W hW : Calls Tryd.prog 26 #[.int .i64 (-z)] W _))
        generalize dec (-z) = sd at *
        have q1 := neqB hq
        have k9 : ((s.size - 1 : Nat) : Int) < (s.size : Int) := by omega
        go_wp2_with fail
        (with_reducible refine (CD.out _ (hT.ext (by with_reducible (repeat (first | exact Ext.refl _ | apply Ext.drewN | apply Ext.drew | apply Ext.alloc | (refine Ext.set ?_ (by first | (simp; done) | (simp; omega) | omega) _) | (refine Ext.trans ?_ (by assumption))))))).mono ?_)
        rintro e w1 ⟨rfl, hx1⟩
        go_wp2
        go_ret2
        exact ⟨rfl, Ext.trans (by with_reducible (repeat (first | exact Ext.refl _ | apply Ext.drewN | apply Ext.drew | apply Ext.alloc | (refine Ext.set ?_ (by first | (simp; done) | (simp; omega) | omega) _) | (refine Ext.trans ?_ (by assumption))))) hx1⟩
set_option maxHeartbeats 4000000 in
set_option maxRecDepth 100000 in
theorem implNumber_pos (s : ByteArray) (w : World) (hs : s.size ≤ 2000000) (h45 : s.data[0]? ≠ some 45) (hT : Tab w) (n : Int) (r : Bool) (hN : Nmb s n r) :
    Calls Tryd.prog 34 #[.string s] w fun e w' => e = .returned (.tuple #[.int .i64 n, .bool r]) ∧ Ext w w' := by
  have HT : Hid (numT s = s) := by show _ = _; unfold numT; rw [if_neg h45]
  have HV : Hid (numV s = dval (s).data.toList) := by show _ = _; unfold numV; rw [if_neg h45, HT.out]
  have hne0 : ∀ h : 0 < s.size, ((((s[0]'h).toNat : Nat) : Int) == 45) = false := fun h => by
    have h1 := byte_at h
    have h2 : s[0] ≠ 45 := fun e => h45 (by rw [h1, e])
    have h3 : s[0].toNat ≠ 45 := fun e => h2 (UInt8.toNat_inj.1 e)
    simp; omega
  clear h45
  rcases Nat.eq_zero_or_pos s.size with hz | hz
  · have hs0 : s = ⟨#[]⟩ := ByteArray.ext (Array.eq_empty_of_size_eq_zero hz)
    have HNO : Hid (n = 0 ∧ r = false) := by
      rcases hN with ⟨_, h, _⟩ | ⟨h1, _, h2⟩
      · have := h.1.1; rw [HT.out] at this; omega
      · exact ⟨h2, h1⟩
    clear hne0 hN HT HV
    subst hs0
    clear hz hs
    obtain ⟨rfl, rfl⟩ := HNO.out
    clear HNO
    go_enter Tryd.func34, Tryd.ntmps34
    go_wp2
    go_ret2
    exact ⟨rfl, Ext.refl _⟩
  have e0 := hne0 hz
  have hne := emptyN s hz
  clear hne0
  have HN := Lib.hid hN
  clear hN

  have HB : Hid ((s.size = 0 ∨ 18 < s.size) → n = 0 ∧ r = false) := fun hb => by
    rcases HN.out with ⟨_, h, _⟩ | ⟨h1, _, h2⟩
    · have := h.1; rw [HT.out] at this; omega
    · exact ⟨h2, h1⟩
  have HD : Hid (s.data.toList.all isDg = false → n = 0 ∧ r = false) := fun hb => by
    rcases HN.out with ⟨_, h, _⟩ | ⟨h1, _, h2⟩
    · have := h.2.1; rw [HT.out, hb] at this; cases this
    · exact ⟨h2, h1⟩
  skip
  by_cases hlen : s.size = 0 ∨ 18 < s.size
  · obtain ⟨rfl, rfl⟩ := HB.out hlen
    clear HN HB HD
    have hTZ : 18 < s.size := by omega
    clear hlen
    have i1 : (1 : Int) ≤ s.size := by omega
    have e2 : (18 : Int) < (s.size : Int) := by omega
    have f1 : ((s.size : Int) == 0) = false := beq_eq_false_iff_ne.2 (by omega)
    have f2 : (s.size == 0) = false := beq_eq_false_iff_ne.2 (by omega)
    go_enter Tryd.func34, Tryd.ntmps34
    go_wp2
    go_ret2
    exact ⟨rfl, Ext.refl _⟩
  have hl1 : 1 ≤ s.size ∧ s.size ≤ 18 := by omega
  clear HB hlen
  have i1 : (1 : Int) ≤ s.size := by omega
  have e1 : True := trivial
  have f1 : ((s.size : Int) == 0) = false := beq_eq_false_iff_ne.2 (by omega)
  have f2 : (s.size == 0) = false := beq_eq_false_iff_ne.2 (by omega)
  have e4 : ¬ (s.size : Int) < 1 := by omega
  have e2 : ¬ (18 : Int) < (s.size : Int) := by omega
  go_enter Tryd.func34, Tryd.ntmps34
  go_wp2
  skip
  clear e1 e2 e4
  go_loop [5, 28] (fun v i => ∃ k : Nat, k ≤ s.size ∧ i = .int .i64 k ∧ v = .int .i64 (dval (s.data.toList.take k)) ∧ Hid ((s.data.toList.take k).all isDg = true)) (fun _ i => s.size - (intOf i).toNat)
  case atStart => exact ⟨0, Nat.zero_le _, rfl, rfl, rfl⟩
  case round =>
    obtain ⟨k, hk, rfl, rfl, HA⟩ := hrel
    by_cases hlt : k < s.size
    · have hki : (k : Int) < s.size := by omega
      have htk := take_at hlt
      have hv := dval_small HA.out (by rw [List.length_take]; omega)
      obtain ⟨x, hx⟩ : ∃ x, s[k] = x := ⟨_, rfl⟩
      rw [hx] at htk
      have HTK := Lib.hid htk
      have HALL : Hid (isDg x = false → s.data.toList.all isDg = false) := fun hd => by
        rw [← List.take_append_drop (k + 1) s.data.toList, List.all_append, HTK.out, List.all_append]
        simp [hd]
      obtain ⟨z, hz⟩ : ∃ z, dval (s.data.toList.take k) = z := ⟨_, rfl⟩
      rw [hz] at hv
      have HZ := Lib.hid hz
      rw [hz]
      clear htk hz
      cases hd : isDg x
      · obtain ⟨rfl, rfl⟩ := HD.out (HALL.out hd)
        have HDX := Lib.hid hd
        clear hd HN HD HALL
        go_wp2_with fail
        (with_reducible refine (implNumber_dig x false HDX.out _).mono ?_)
        rintro e w' ⟨rfl, rfl⟩
        go_wp2
        go_ret2
        exact ⟨rfl, Ext.refl _⟩
      · have hb := isDg_iff.1 hd
        have HDX := Lib.hid hd
        have i3 : (48 : Int) ≤ (x.toNat : Int) := by omega
        have i4 : (x.toNat : Int) ≤ 57 := by omega
        have HS : Hid (dval (s.data.toList.take (k + 1)) = 10 * z + ((x.toNat : Int) - 48)) := by show _ = _; rw [HTK.out, dval_snoc, HZ.out]
        have HA2 : Hid ((s.data.toList.take (k + 1)).all isDg = true) := by show _ = _; rw [HTK.out, List.all_append, HA.out]; simp [hd]
        clear hd hb
        go_wp2_with fail
        (with_reducible refine (implNumber_dig x true HDX.out _).mono ?_)
        rintro e w' ⟨rfl, rfl⟩
        go_wp2
        go_round
        case rel => exact ⟨k + 1, by omega, by go_num, by rw [HS.out], HA2.out⟩
        case measure => simp [intOf]; omega
    · obtain rfl : k = s.size := by omega
      have HF : Hid (s.data.toList.take s.size = s.data.toList) := List.take_of_length_le (by simp)
      rw [HF.out] at HA ⊢
      have hv := dval_small2 HA.out (by simp; omega)
      obtain ⟨z, hz⟩ : ∃ z, dval s.data.toList = z := ⟨_, rfl⟩
      rw [hz] at hv ⊢
      have hzV : numV s = z := by rw [HV.out, hz]
      have HZV := Lib.hid hzV
      clear hz hzV HD
      by_cases hq : dec (z) = s
      · have hr : n = z ∧ r = true := by
          have hok : numOk s := ⟨by rw [HT.out]; exact hl1, by rw [HT.out]; exact HA.out, by rw [HZV.out]; exact hq⟩
          rcases HN.out with ⟨h1, _, h2⟩ | ⟨_, h1, _⟩
          · exact ⟨by rw [h2, HZV.out], h1⟩
          · exact absurd hok h1
        obtain ⟨hnz, rfl⟩ := hr
        have HNZ := Lib.hid hnz
        clear hnz
        clear HN
        have CD := Lib.hid (fun W hW => (DecimalT_any (z) (by omega) W hW : Calls Tryd.prog 26 #[.int .i64 (z)] W _))
        rw [hq] at CD
        have HQ := Lib.hid hq
        clear hq
        go_wp2_with fail
        (with_reducible refine (CD.out _ (hT.ext (by with_reducible (repeat (first | exact Ext.refl _ | apply Ext.drewN | apply Ext.drew | apply Ext.alloc | (refine Ext.set ?_ (by first | (simp; done) | (simp; omega) | omega) _) | (refine Ext.trans ?_ (by assumption))))))).mono ?_)
        rintro e w1 ⟨rfl, hx1⟩
        go_wp2
        go_ret2
        exact ⟨(by rw [HNZ.out]; rfl), Ext.trans (by with_reducible (repeat (first | exact Ext.refl _ | apply Ext.drewN | apply Ext.drew | apply Ext.alloc | (refine Ext.set ?_ (by first | (simp; done) | (simp; omega) | omega) _) | (refine Ext.trans ?_ (by assumption))))) hx1⟩
      · have hr : n = 0 ∧ r = false := by
          rcases HN.out with ⟨_, h1, _⟩ | ⟨h1, _, h2⟩
          · exact absurd (by have := h1.2.2; rwa [HZV.out] at this) hq
          · exact ⟨h2, h1⟩
        obtain ⟨rfl, rfl⟩ := hr
        clear HN
        have CD := Lib.hid (fun W hW => (DecimalT_any (z) (by omega) W hW : Calls Tryd.prog 26 #[.int .i64 (z)] W _))
        generalize dec (z) = sd at *
        have q1 := neqB hq
        go_wp2_with fail
        (with_reducible refine (CD.out _ (hT.ext (by with_reducible (repeat (first | exact Ext.refl _ | apply Ext.drewN | apply Ext.drew | apply Ext.alloc | (refine Ext.set ?_ (by first | (simp; done) | (simp; omega) | omega) _) | (refine Ext.trans ?_ (by assumption))))))).mono ?_)
        rintro e w1 ⟨rfl, hx1⟩
        go_wp2
        go_ret2
        exact ⟨rfl, Ext.trans (by with_reducible (repeat (first | exact Ext.refl _ | apply Ext.drewN | apply Ext.drew | apply Ext.alloc | (refine Ext.set ?_ (by first | (simp; done) | (simp; omega) | omega) _) | (refine Ext.trans ?_ (by assumption))))) hx1⟩
theorem implNumber_is (s : ByteArray) (w : World) (hs : s.size ≤ 2000000) (hT : Tab w) (n : Int) (r : Bool) (hN : Nmb s n r) :
    Calls Tryd.prog 34 #[.string s] w fun e w' => e = .returned (.tuple #[.int .i64 n, .bool r]) ∧ Ext w w' := by
  by_cases h : s.data[0]? = some 45
  · exact implNumber_neg s w hs h hT n r hN
  · exact implNumber_pos s w hs h hT n r hN
theorem specNumber_dig (x : UInt8) (v : Bool) (h : isDg x = v) (w : World) :
    Calls Tryd.prog 62 #[.int .u8 (x.toNat : Int)] w fun e w' => e = .returned (.bool v) ∧ w = w' := by
  subst h
  have hx : x.toNat < 256 := x.toNat_lt
  unfold isDg
  by_cases h1 : (48 : Int) ≤ (x.toNat : Int)
  · by_cases h2 : (x.toNat : Int) ≤ 57
    · rw [decide_eq_true (show 48 ≤ x.toNat ∧ x.toNat ≤ 57 by omega)]
      go_enter Tryd.func62, Tryd.ntmps62
      go_wp2
      go_ret
      exact ⟨rfl, rfl⟩
    · rw [decide_eq_false (show ¬ (48 ≤ x.toNat ∧ x.toNat ≤ 57) by omega)]
      go_enter Tryd.func62, Tryd.ntmps62
      go_wp2
      go_ret
      exact ⟨rfl, rfl⟩
  · rw [decide_eq_false (show ¬ (48 ≤ x.toNat ∧ x.toNat ≤ 57) by omega)]
    go_enter Tryd.func62, Tryd.ntmps62
    go_wp2
    go_ret
    exact ⟨rfl, rfl⟩
set_option maxHeartbeats 4000000 in
set_option maxRecDepth 100000 in
theorem specNumber_neg (s : ByteArray) (w : World) (hs : s.size ≤ 2000000) (h45 : s.data[0]? = some 45) (n : Int) (r : Bool) (hN : Nmb s n r) :
    Calls Tryd.prog 30 #[.string s] w fun e w' => e = .returned (.tuple #[.int .i64 n, .bool r]) ∧ Ext w w' := by
  have HT : Hid (numT s = s.extract 1 s.size) := by show _ = _; unfold numT; rw [if_pos h45]
  have HV : Hid (numV s = -dval (s.extract 1 s.size).data.toList) := by show _ = _; unfold numV; rw [if_pos h45, HT.out]
  have hsz : 0 < s.size := (Array.getElem?_eq_some_iff.1 h45).1
  have h0 : s[0] = 45 := by have := byte_at hsz; rw [this] at h45; exact Option.some.inj h45
  have h0n : s[0].toNat = 45 := by rw [h0]; rfl
  have hne := emptyN s hsz
  clear h45 h0
  have HN := Lib.hid hN
  clear hN

  obtain ⟨t, ht⟩ : ∃ t, s.extract 1 s.size = t := ⟨_, rfl⟩
  rw [ht] at HT HV
  have hts : t.size = s.size - 1 := by rw [← ht]; simp [ByteArray.size_extract]
  have hx1 : (s.extract 1 s.size) = t := ht
  have HX1 := Lib.hid hx1
  clear hx1
  have HB : Hid ((t.size = 0 ∨ 18 < t.size) → n = 0 ∧ r = false) := fun hb => by
    rcases HN.out with ⟨_, h, _⟩ | ⟨h1, _, h2⟩
    · have := h.1; rw [HT.out] at this; omega
    · exact ⟨h2, h1⟩
  have HD : Hid (t.data.toList.all isDg = false → n = 0 ∧ r = false) := fun hb => by
    rcases HN.out with ⟨_, h, _⟩ | ⟨h1, _, h2⟩
    · have := h.2.1; rw [HT.out, hb] at this; cases this
    · exact ⟨h2, h1⟩
  clear ht
  by_cases hlen : t.size = 0 ∨ 18 < t.size
  · obtain ⟨rfl, rfl⟩ := HB.out hlen
    clear HN HB HD
    have hTZ : s.size = 1 ∨ 19 < s.size := by omega
    clear hlen
    go_enter Tryd.func30, Tryd.ntmps30
    rcases hTZ with hq | hq
    · have i1 : (1 : Int) ≤ s.size := by omega
      have e1 : (((s.size - 1 : Nat) : Int) == 0) = true := by rw [hq]; rfl
      have e4 : ((s.size - 1 : Nat) : Int) < 1 := by omega
      clear hq
      go_wp2
      go_ret2
      exact ⟨rfl, Ext.refl _⟩
    · have i1 : (1 : Int) ≤ s.size := by omega
      have e2 : (18 : Int) < ((s.size - 1 : Nat) : Int) := by omega
      have e1 : (((s.size - 1 : Nat) : Int) == 0) = false := beq_eq_false_iff_ne.2 (by omega)
      have e4 : ¬ ((s.size - 1 : Nat) : Int) < 1 := by omega
      clear hq
      go_wp2
      go_ret2
      exact ⟨rfl, Ext.refl _⟩
  have hl1 : 1 ≤ t.size ∧ t.size ≤ 18 := by omega
  clear HB hlen
  have i1 : (1 : Int) ≤ s.size := by omega
  have e1 : (((s.size - 1 : Nat) : Int) == 0) = false := beq_eq_false_iff_ne.2 (by omega)
  have f1 : ((s.size : Int) == 0) = false := beq_eq_false_iff_ne.2 (by omega)
  have f2 : (s.size == 0) = false := beq_eq_false_iff_ne.2 (by omega)
  have e4 : ¬ ((s.size - 1 : Nat) : Int) < 1 := by omega
  have e2 : ¬ (18 : Int) < ((s.size - 1 : Nat) : Int) := by omega
  go_enter Tryd.func30, Tryd.ntmps30
  go_wp2
  rw [HX1.out]
  clear e1 e2 e4
  go_loop [5, 6] (fun v i => ∃ k : Nat, k ≤ t.size ∧ i = .int .i64 k ∧ v = .int .i64 (dval (t.data.toList.take k)) ∧ Hid ((t.data.toList.take k).all isDg = true)) (fun _ i => t.size - (intOf i).toNat)
  case atStart => exact ⟨0, Nat.zero_le _, rfl, rfl, rfl⟩
  case round =>
    obtain ⟨k, hk, rfl, rfl, HA⟩ := hrel
    by_cases hlt : k < t.size
    · have hki : (k : Int) < t.size := by omega
      have htk := take_at hlt
      have hv := dval_small HA.out (by rw [List.length_take]; omega)
      obtain ⟨x, hx⟩ : ∃ x, t[k] = x := ⟨_, rfl⟩
      rw [hx] at htk
      have HTK := Lib.hid htk
      have HALL : Hid (isDg x = false → t.data.toList.all isDg = false) := fun hd => by
        rw [← List.take_append_drop (k + 1) t.data.toList, List.all_append, HTK.out, List.all_append]
        simp [hd]
      obtain ⟨z, hz⟩ : ∃ z, dval (t.data.toList.take k) = z := ⟨_, rfl⟩
      rw [hz] at hv
      have HZ := Lib.hid hz
      rw [hz]
      clear htk hz
      cases hd : isDg x
      · obtain ⟨rfl, rfl⟩ := HD.out (HALL.out hd)
        have HDX := Lib.hid hd
        clear hd HN HD HALL
        go_wp2_with fail
        (with_reducible refine (specNumber_dig x false HDX.out _).mono ?_)
        rintro e w' ⟨rfl, rfl⟩
        go_wp2
        go_ret2
        exact ⟨rfl, Ext.refl _⟩
      · have hb := isDg_iff.1 hd
        have HDX := Lib.hid hd
        have i3 : (48 : Int) ≤ (x.toNat : Int) := by omega
        have i4 : (x.toNat : Int) ≤ 57 := by omega
        have HS : Hid (dval (t.data.toList.take (k + 1)) = 10 * z + ((x.toNat : Int) - 48)) := by show _ = _; rw [HTK.out, dval_snoc, HZ.out]
        have HA2 : Hid ((t.data.toList.take (k + 1)).all isDg = true) := by show _ = _; rw [HTK.out, List.all_append, HA.out]; simp [hd]
        clear hd hb
        go_wp2_with fail
        (with_reducible refine (specNumber_dig x true HDX.out _).mono ?_)
        rintro e w' ⟨rfl, rfl⟩
        go_wp2
        go_round
        case rel => exact ⟨k + 1, by omega, by go_num, by rw [HS.out], HA2.out⟩
        case measure => simp [intOf]; omega
    · obtain rfl : k = t.size := by omega
      have HF : Hid (t.data.toList.take t.size = t.data.toList) := List.take_of_length_le (by simp)
      rw [HF.out] at HA ⊢
      have hv := dval_small2 HA.out (by simp; omega)
      obtain ⟨z, hz⟩ : ∃ z, dval t.data.toList = z := ⟨_, rfl⟩
      rw [hz] at hv ⊢
      have hzV : numV s = -z := by rw [HV.out, hz]
      have HZV := Lib.hid hzV
      clear hz hzV HD
      by_cases hq : dec (-z) = s
      · have hr : n = -z ∧ r = true := by
          have hok : numOk s := ⟨by rw [HT.out]; exact hl1, by rw [HT.out]; exact HA.out, by rw [HZV.out]; exact hq⟩
          rcases HN.out with ⟨h1, _, h2⟩ | ⟨_, h1, _⟩
          · exact ⟨by rw [h2, HZV.out], h1⟩
          · exact absurd hok h1
        obtain ⟨hnz, rfl⟩ := hr
        have HNZ := Lib.hid hnz
        clear hnz
        clear HN
        have CD := Lib.hid (fun W  => (l01Dec_any (-z) (by omega) W : Calls Tryd.prog 52 #[.int .i64 (-z)] W _))
        rw [hq] at CD
        have HQ := Lib.hid hq
        clear hq
        have k9 : ((s.size - 1 : Nat) : Int) < (s.size : Int) := by omega
        go_wp2_with fail
        (with_reducible refine (CD.out _).mono ?_)
        rintro e w1 ⟨rfl, hx1⟩
        go_wp2
        go_ret2
        exact ⟨(by rw [HNZ.out]; rfl), Ext.trans (by with_reducible (repeat (first | exact Ext.refl _ | apply Ext.drewN | apply Ext.drew | apply Ext.alloc | (refine Ext.set ?_ (by first | (simp; done) | (simp; omega) | omega) _) | (refine Ext.trans ?_ (by assumption))))) hx1⟩
      · have hr : n = 0 ∧ r = false := by
          rcases HN.out with ⟨_, h1, _⟩ | ⟨h1, _, h2⟩
          · exact absurd (by have := h1.2.2; rwa [HZV.out] at this) hq
          · exact ⟨h2, h1⟩
        obtain ⟨rfl, rfl⟩ := hr
        clear HN
        have CD := Lib.hid (fun W  => (l01Dec_any (-z) (by omega) W : Calls Tryd.prog 52 #[.int .i64 (-z)] W _))
        generalize dec (-z) = sd at *
        have q1 := neqB hq
        have k9 : ((s.size - 1 : Nat) : Int) < (s.size : Int) := by omega
        go_wp2_with fail
        (with_reducible refine (CD.out _).mono ?_)
        rintro e w1 ⟨rfl, hx1⟩
        go_wp2
        go_ret2
        exact ⟨rfl, Ext.trans (by with_reducible (repeat (first | exact Ext.refl _ | apply Ext.drewN | apply Ext.drew | apply Ext.alloc | (refine Ext.set ?_ (by first | (simp; done) | (simp; omega) | omega) _) | (refine Ext.trans ?_ (by assumption))))) hx1⟩
set_option maxHeartbeats 4000000 in
set_option maxRecDepth 100000 in
theorem specNumber_pos (s : ByteArray) (w : World) (hs : s.size ≤ 2000000) (h45 : s.data[0]? ≠ some 45) (n : Int) (r : Bool) (hN : Nmb s n r) :
    Calls Tryd.prog 30 #[.string s] w fun e w' => e = .returned (.tuple #[.int .i64 n, .bool r]) ∧ Ext w w' := by
  have HT : Hid (numT s = s) := by show _ = _; unfold numT; rw [if_neg h45]
  have HV : Hid (numV s = dval (s).data.toList) := by show _ = _; unfold numV; rw [if_neg h45, HT.out]
  have hne0 : ∀ h : 0 < s.size, ((((s[0]'h).toNat : Nat) : Int) == 45) = false := fun h => by
    have h1 := byte_at h
    have h2 : s[0] ≠ 45 := fun e => h45 (by rw [h1, e])
    have h3 : s[0].toNat ≠ 45 := fun e => h2 (UInt8.toNat_inj.1 e)
    simp; omega
  clear h45
  rcases Nat.eq_zero_or_pos s.size with hz | hz
  · have hs0 : s = ⟨#[]⟩ := ByteArray.ext (Array.eq_empty_of_size_eq_zero hz)
    have HNO : Hid (n = 0 ∧ r = false) := by
      rcases hN with ⟨_, h, _⟩ | ⟨h1, _, h2⟩
      · have := h.1.1; rw [HT.out] at this; omega
      · exact ⟨h2, h1⟩
    clear hne0 hN HT HV
    subst hs0
    clear hz hs
    obtain ⟨rfl, rfl⟩ := HNO.out
    clear HNO
    go_enter Tryd.func30, Tryd.ntmps30
    go_wp2
    go_ret2
    exact ⟨rfl, Ext.refl _⟩
  have e0 := hne0 hz
  have hne := emptyN s hz
  clear hne0
  have HN := Lib.hid hN
  clear hN

  have HB : Hid ((s.size = 0 ∨ 18 < s.size) → n = 0 ∧ r = false) := fun hb => by
    rcases HN.out with ⟨_, h, _⟩ | ⟨h1, _, h2⟩
    · have := h.1; rw [HT.out] at this; omega
    · exact ⟨h2, h1⟩
  have HD : Hid (s.data.toList.all isDg = false → n = 0 ∧ r = false) := fun hb => by
    rcases HN.out with ⟨_, h, _⟩ | ⟨h1, _, h2⟩
    · have := h.2.1; rw [HT.out, hb] at this; cases this
    · exact ⟨h2, h1⟩
  skip
  by_cases hlen : s.size = 0 ∨ 18 < s.size
  · obtain ⟨rfl, rfl⟩ := HB.out hlen
    clear HN HB HD
    have hTZ : 18 < s.size := by omega
    clear hlen
    have i1 : (1 : Int) ≤ s.size := by omega
    have e2 : (18 : Int) < (s.size : Int) := by omega
    have f1 : ((s.size : Int) == 0) = false := beq_eq_false_iff_ne.2 (by omega)
    have f2 : (s.size == 0) = false := beq_eq_false_iff_ne.2 (by omega)
    go_enter Tryd.func30, Tryd.ntmps30
    go_wp2
    go_ret2
    exact ⟨rfl, Ext.refl _⟩
  have hl1 : 1 ≤ s.size ∧ s.size ≤ 18 := by omega
  clear HB hlen
  have i1 : (1 : Int) ≤ s.size := by omega
  have e1 : True := trivial
  have f1 : ((s.size : Int) == 0) = false := beq_eq_false_iff_ne.2 (by omega)
  have f2 : (s.size == 0) = false := beq_eq_false_iff_ne.2 (by omega)
  have e4 : ¬ (s.size : Int) < 1 := by omega
  have e2 : ¬ (18 : Int) < (s.size : Int) := by omega
  go_enter Tryd.func30, Tryd.ntmps30
  go_wp2
  skip
  clear e1 e2 e4
  go_loop [5, 6] (fun v i => ∃ k : Nat, k ≤ s.size ∧ i = .int .i64 k ∧ v = .int .i64 (dval (s.data.toList.take k)) ∧ Hid ((s.data.toList.take k).all isDg = true)) (fun _ i => s.size - (intOf i).toNat)
  case atStart => exact ⟨0, Nat.zero_le _, rfl, rfl, rfl⟩
  case round =>
    obtain ⟨k, hk, rfl, rfl, HA⟩ := hrel
    by_cases hlt : k < s.size
    · have hki : (k : Int) < s.size := by omega
      have htk := take_at hlt
      have hv := dval_small HA.out (by rw [List.length_take]; omega)
      obtain ⟨x, hx⟩ : ∃ x, s[k] = x := ⟨_, rfl⟩
      rw [hx] at htk
      have HTK := Lib.hid htk
      have HALL : Hid (isDg x = false → s.data.toList.all isDg = false) := fun hd => by
        rw [← List.take_append_drop (k + 1) s.data.toList, List.all_append, HTK.out, List.all_append]
        simp [hd]
      obtain ⟨z, hz⟩ : ∃ z, dval (s.data.toList.take k) = z := ⟨_, rfl⟩
      rw [hz] at hv
      have HZ := Lib.hid hz
      rw [hz]
      clear htk hz
      cases hd : isDg x
      · obtain ⟨rfl, rfl⟩ := HD.out (HALL.out hd)
        have HDX := Lib.hid hd
        clear hd HN HD HALL
        go_wp2_with fail
        (with_reducible refine (specNumber_dig x false HDX.out _).mono ?_)
        rintro e w' ⟨rfl, rfl⟩
        go_wp2
        go_ret2
        exact ⟨rfl, Ext.refl _⟩
      · have hb := isDg_iff.1 hd
        have HDX := Lib.hid hd
        have i3 : (48 : Int) ≤ (x.toNat : Int) := by omega
        have i4 : (x.toNat : Int) ≤ 57 := by omega
        have HS : Hid (dval (s.data.toList.take (k + 1)) = 10 * z + ((x.toNat : Int) - 48)) := by show _ = _; rw [HTK.out, dval_snoc, HZ.out]
        have HA2 : Hid ((s.data.toList.take (k + 1)).all isDg = true) := by show _ = _; rw [HTK.out, List.all_append, HA.out]; simp [hd]
        clear hd hb
        go_wp2_with fail
        (with_reducible refine (specNumber_dig x true HDX.out _).mono ?_)
        rintro e w' ⟨rfl, rfl⟩
        go_wp2
        go_round
        case rel => exact ⟨k + 1, by omega, by go_num, by rw [HS.out], HA2.out⟩
        case measure => simp [intOf]; omega
    · obtain rfl : k = s.size := by omega
      have HF : Hid (s.data.toList.take s.size = s.data.toList) := List.take_of_length_le (by simp)
      rw [HF.out] at HA ⊢
      have hv := dval_small2 HA.out (by simp; omega)
      obtain ⟨z, hz⟩ : ∃ z, dval s.data.toList = z := ⟨_, rfl⟩
      rw [hz] at hv ⊢
      have hzV : numV s = z := by rw [HV.out, hz]
      have HZV := Lib.hid hzV
      clear hz hzV HD
      by_cases hq : dec (z) = s
      · have hr : n = z ∧ r = true := by
          have hok : numOk s := ⟨by rw [HT.out]; exact hl1, by rw [HT.out]; exact HA.out, by rw [HZV.out]; exact hq⟩
          rcases HN.out with ⟨h1, _, h2⟩ | ⟨_, h1, _⟩
          · exact ⟨by rw [h2, HZV.out], h1⟩
          · exact absurd hok h1
        obtain ⟨hnz, rfl⟩ := hr
        have HNZ := Lib.hid hnz
        clear hnz
        clear HN
        have CD := Lib.hid (fun W  => (l01Dec_any (z) (by omega) W : Calls Tryd.prog 52 #[.int .i64 (z)] W _))
        rw [hq] at CD
        have HQ := Lib.hid hq
        clear hq
        go_wp2_with fail
        (with_reducible refine (CD.out _).mono ?_)
        rintro e w1 ⟨rfl, hx1⟩
        go_wp2
        go_ret2
        exact ⟨(by rw [HNZ.out]; rfl), Ext.trans (by with_reducible (repeat (first | exact Ext.refl _ | apply Ext.drewN | apply Ext.drew | apply Ext.alloc | (refine Ext.set ?_ (by first | (simp; done) | (simp; omega) | omega) _) | (refine Ext.trans ?_ (by assumption))))) hx1⟩
      · have hr : n = 0 ∧ r = false := by
          rcases HN.out with ⟨_, h1, _⟩ | ⟨h1, _, h2⟩
          · exact absurd (by have := h1.2.2; rwa [HZV.out] at this) hq
          · exact ⟨h2, h1⟩
        obtain ⟨rfl, rfl⟩ := hr
        clear HN
        have CD := Lib.hid (fun W  => (l01Dec_any (z) (by omega) W : Calls Tryd.prog 52 #[.int .i64 (z)] W _))
        generalize dec (z) = sd at *
        have q1 := neqB hq
        go_wp2_with fail
        (with_reducible refine (CD.out _).mono ?_)
        rintro e w1 ⟨rfl, hx1⟩
        go_wp2
        go_ret2
        exact ⟨rfl, Ext.trans (by with_reducible (repeat (first | exact Ext.refl _ | apply Ext.drewN | apply Ext.drew | apply Ext.alloc | (refine Ext.set ?_ (by first | (simp; done) | (simp; omega) | omega) _) | (refine Ext.trans ?_ (by assumption))))) hx1⟩
theorem specNumber_is (s : ByteArray) (w : World) (hs : s.size ≤ 2000000) (n : Int) (r : Bool) (hN : Nmb s n r) :
    Calls Tryd.prog 30 #[.string s] w fun e w' => e = .returned (.tuple #[.int .i64 n, .bool r]) ∧ Ext w w' := by
  by_cases h : s.data[0]? = some 45
  · exact specNumber_neg s w hs h n r hN
  · exact specNumber_pos s w hs h n r hN
end Go.Proofs.YtinkaglngblddaaDoor
