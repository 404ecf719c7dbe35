/- Decimal forms of numbers: contracts of the program's Decimal and of the reference's l01Dec. No condition but the stated bounds. -/
import Derived.Test.YtinkaglngblddaaDoorByt
import Derived.Test.YtinkaglngblddaaDoorNum
import Derived.Test.YtinkaglngblddaaDoorShl
import Derived.Lib.ItoaNum
import Derived.Laws.Concat
import Derived.Deep.Slices
namespace Go.Proofs.YtinkaglngblddaaDoor
set_option linter.unusedVariables false
set_option linter.unusedSimpArgs false
open Go.RowKit Go.Joins Go.Deep

/-- The digits of a number, none for 0. -/
def dg (u : Nat) : List UInt8 := if u = 0 then [] else Lib.decDigits u
theorem dg_step (u : Nat) (h : 0 < u) : dg u = dg (u / 10) ++ [UInt8.ofNat (48 + u % 10)] := by
  unfold dg
  rw [if_neg (by omega)]
  by_cases h10 : u < 10
  · rw [if_pos (by omega), Lib.decDigits, dif_pos h10, Nat.mod_eq_of_lt h10]
    rfl
  · rw [if_neg (by omega), Lib.decDigits, dif_neg h10]
theorem dg_len : ∀ (j u : Nat), u < 10 ^ j → (dg u).length ≤ j
  | 0, u, h => by
    have : u = 0 := by simpa using h
    subst this
    simp [dg]
  | j + 1, u, h => by
    by_cases h0 : u = 0
    · subst h0
      simp [dg]
    · rw [dg_step u (by omega), List.length_append]
      have := dg_len j (u / 10) (by rw [Nat.div_lt_iff_lt_mul (by omega)]; rw [Nat.pow_succ] at h; exact h)
      simp
      omega
theorem itoa_neg {n : Int} (h : n < 0) : Lib.itoa n = 45 :: dg n.natAbs := by
  unfold Lib.itoa dg
  rw [if_pos h, if_neg (by omega)]
theorem itoa_pos {n : Int} (h : 0 < n) : Lib.itoa n = dg n.natAbs := by
  unfold Lib.itoa dg
  rw [if_neg (by omega), if_neg (by omega), show n.toNat = n.natAbs by omega]
theorem itoa_zero : Lib.itoa 0 = [48] := by
  unfold Lib.itoa
  rw [if_neg (by omega), Lib.decDigits, dif_pos (by decide)]
  rfl
theorem itoa_len {n : Int} (h : -9223372036854775808 ≤ n ∧ n ≤ 9223372036854775807) : 0 < (Lib.itoa n).length ∧ (Lib.itoa n).length ≤ 21 := by
  have hl := dg_len 20 n.natAbs (by omega)
  rcases Int.lt_trichotomy n 0 with h0 | h0 | h0
  · rw [itoa_neg h0]
    simp
    omega
  · subst h0
    rw [itoa_zero]
    simp
  · rw [itoa_pos h0]
    have := dg_step n.natAbs (by omega)
    refine ⟨?_, by omega⟩
    rw [this]
    simp
/-- A decimal form. -/
def dec (n : Int) : ByteArray := ⟨(Lib.itoa n).toArray⟩
theorem dec_size {n : Int} (h : -9223372036854775808 ≤ n ∧ n ≤ 9223372036854775807) : 0 < (dec n).size ∧ (dec n).size ≤ 21 := by
  have := itoa_len h
  show 0 < (Lib.itoa n).toArray.size ∧ (Lib.itoa n).toArray.size ≤ 21
  simpa using this

/-- 'append([]byte{b}, out...)'. -/
theorem preB {ops : Array Oper} {rest : List Oper} {o : Oper} {a : Act} {Q : Exit → Act → World → Prop} {w W : World} {g c B : Nat} {l : List UInt8} (b : UInt8) (hgd : o.guard = none) (s x : Operand)
    (ho : o.op = .call { callee := .builtin .append, args := #[s, x], argTypes := #[37, 37] }) (hs : a.eval s = .slice (some ⟨B, 0, none⟩) 1 1) (hB : W.heap[B]? = some (.cells #[.int .u8 (b.toNat : Int)] 5))
    (hlo : w.heap.size ≤ B) (hx : a.eval x = .slice (some ⟨g, 0, none⟩) l.length c) (hown : OwnG 5 1 w W (.slice (some ⟨g, 0, none⟩) l.length c) l.length (bcs l)) (hn : l.length ≤ 1000)
    (h : ∀ g' c' w', OwnG 5 1 w w' (.slice (some ⟨g', 0, none⟩) (b :: l).length c') (b :: l).length (bcs (b :: l)) → wpList Tryd.prog ops Q rest (a.put o.dst (.slice (some ⟨g', 0, none⟩) (b :: l).length c')) w') :
    wpList Tryd.prog ops Q (o :: rest) a W := by
  obtain ⟨i, z, hi, hz0, hz1, hz2, hz3⟩ := elByte
  have hownB : W.ownsRow w.heap.size 5 1 (.slice (some ⟨B, 0, none⟩) 1 1) 1 [.int .u8 (b.toNat : Int)] :=
    ⟨by simp, .inr ⟨B, 1, #[.int .u8 (b.toNat : Int)], rfl, hlo, hB, Nat.le_refl _, by unfold maxLen; omega, by simp, by simp⟩⟩
  refine wpList_append_own_at W hgd s x 37 ho w.heap.size 5 i z 1 1 Tryd.underlying37 hi hz0 hz1 hz2 hz3 (by omega) _ 1 _ hs hownB ⟨g, 0, none⟩ l.length c (bcs l) hx (by rw [bcs_len]; omega) ?_ (bcs_one l) (by unfold maxLen; omega) (by omega) hown.ext.size ?_
  · intro j u hj
    have hjl : j < l.length := by
      have := List.getElem?_eq_some_iff.1 hj
      obtain ⟨hl, _⟩ := this
      rwa [bcs_len] at hl
    rw [← hj, show (⟨g, 0, none⟩ : Addr).add j = ⟨g, j, none⟩ by simp [Addr.add]; intro h; exact h.symm]
    exact World.ownsRow.cellAt hown.own j (by omega)
  · intro v' w' ho' hg _ _
    rw [show (1 : Nat) + l.length = (b :: l).length by simp [Nat.add_comm]] at ho'
    obtain ⟨g', cap, rfl, _, _⟩ := World.ownsRow.form ho' (by simp)
    exact h g' cap w' ⟨ho', hown.ext.grown hg (fun k hk => (World.ownsRow.lt hownB k hk).1)⟩
set_option maxHeartbeats 1000000 in
set_option maxRecDepth 100000 in
theorem l01Dec_any (n : Int) (hn : -9223372036854775808 ≤ n ∧ n ≤ 9223372036854775807) (w : World) :
    Calls Tryd.prog 52 #[.int .i64 n] w fun e w' => e = .returned (.string (dec n)) ∧ Ext w w' := by
  have HD := Lib.hid (dg_len 20 n.natAbs (by omega))
  go_enter Tryd.func52, Tryd.ntmps52
  go_wp2
  go_loopw [3, 4, 5] (fun s i _ wr => ∃ (k : Int) (l : List UInt8) (g c : Nat), i = .int .i64 k ∧ s = .slice (some ⟨g, 0, none⟩) l.length c ∧ (-9223372036854775808 ≤ k ∧ k ≤ 9223372036854775807) ∧ OwnG 5 1 w wr (.slice (some ⟨g, 0, none⟩) l.length c) l.length (bcs l) ∧ dg n.natAbs = dg k.natAbs ++ l) (fun _ i _ _ => (intOf i).natAbs)
  case atStart => exact ⟨n, [], _, _, rfl, rfl, hn, ownG_empty (Ext.refl w) 5 1, by simp⟩
  case round =>
    obtain ⟨k, l, g, c, rfl, rfl, hk, hown, hdg⟩ := hrel
    have HG := Lib.hid hdg
    have hll : l.length ≤ 20 := by
      have := HD.out
      rw [hdg, List.length_append] at this
      omega
    clear hdg
    have hz := hown.ext.size
    by_cases hk0 : k = 0
    · subst hk0
      have HL : Hid (dg n.natAbs = l) := by show _ = _; rw [HG.out]; rfl
      by_cases hl0 : l.length = 0
      · have HR : Hid (dec n = ⟨#[48]⟩) := by
          obtain rfl : l = [] := by simpa using hl0
          have h0 : n = 0 := by
            have := HL.out
            by_cases hn0 : n = 0
            · exact hn0
            · rw [dg_step _ (by omega)] at this
              simp at this
          subst h0
          show (⟨(Lib.itoa 0).toArray⟩ : ByteArray) = _
          rw [itoa_zero]
        rw [hl0]
        go_wp2
        go_ret
        exact ⟨by rw [HR.out]; rfl, hown.ext⟩
      · obtain ⟨g2, c2, hv, hcv⟩ := conv_bytes hown (by omega)
        simp only [Value.slice.injEq, Option.some.injEq, Addr.mk.injEq, and_true, true_and] at hv
        obtain ⟨rfl, rfl⟩ := hv
        obtain ⟨m, hm⟩ : ∃ m, l.length = m := ⟨_, rfl⟩
        rw [hm] at hcv hl0 hll
        have hl1 : ((m : Int) == 0) = false := by simpa using hl0
        have HM := Lib.hid hm
        rw [hm]
        have hx := hown.ext
        clear hm hown HG HD
        by_cases hneg : n < 0
        · have HR : Hid (dec n = (⟨#[45]⟩ : ByteArray) ++ ⟨l.toArray⟩) := by
            show dec n = _
            unfold dec
            rw [itoa_neg hneg, HL.out]
            exact (ByteArray.mk_append_mk [45] l).symm
          have hsz : (⟨l.toArray⟩ : ByteArray).size = m := by rw [← HM.out]; show l.toArray.size = _; simp
          generalize (⟨l.toArray⟩ : ByteArray) = sl at *
          go_wp2
          go_ret
          exact ⟨by rw [HR.out]; rfl, hx⟩
        · have HR : Hid (dec n = ⟨l.toArray⟩) := by
            have h0 : 0 < n := by
              rcases Int.lt_trichotomy n 0 with h | h | h
              · exact absurd h hneg
              · exfalso
                have := HL.out
                subst h
                have h3 := HM.out
                rw [← this] at h3
                simp [dg] at h3
                omega
              · exact h
            show dec n = _
            unfold dec
            rw [itoa_pos h0, HL.out]
          generalize (⟨l.toArray⟩ : ByteArray) = sl at *
          go_wp2
          go_ret
          exact ⟨by rw [HR.out]; rfl, hx⟩
    · obtain ⟨q, hq⟩ : ∃ q : Nat, k.natAbs % 10 = q := ⟨_, rfl⟩
      have hq10 : q < 10 := by omega
      obtain ⟨b, hb⟩ : ∃ b : UInt8, UInt8.ofNat (48 + q) = b := ⟨_, rfl⟩
      have hbn : b.toNat = 48 + q := by
        rw [← hb]
        simp
        omega
      have hb8 : IntKind.u8.wrap (48 + (q : Int)) = (b.toNat : Int) := by
        rw [hbn]
        rw [IntWalk.u8_in _ (by omega)]
        omega
      obtain ⟨d, hd⟩ : ∃ d, k.tmod 10 = d := ⟨_, rfl⟩
      obtain ⟨k2, hk2⟩ : ∃ k2, k.tdiv 10 = k2 := ⟨_, rfl⟩
      have hdq : d = q ∨ d = -(q : Int) := by
        have h1 := Int.natAbs_tmod k 10
        rw [hd, show (10 : Int).natAbs = 10 by rfl, hq] at h1
        omega
      have hk2a : k2.natAbs = k.natAbs / 10 := by
        have h1 := Int.natAbs_tdiv k 10
        rw [hk2] at h1
        exact h1
      have hk2b : -9223372036854775808 ≤ k2 ∧ k2 ≤ 9223372036854775807 := by omega
      have HN : Hid (dg n.natAbs = dg k2.natAbs ++ (b :: l)) := by
        show _ = _
        rw [HG.out, hk2a, dg_step k.natAbs (by omega), hq, hb]
        simp
      have hne : (k != 0) = true := by simpa using hk0
      have hlt : k2.natAbs < k.natAbs := by omega
      have hx := hown.ext
      clear hk2a
      by_cases hd0 : d < 0
      · have hnd : -d = (q : Int) := by omega
        clear hdq hq hbn hb
        go_wp2_with (first | (at_builtin; refine preB b rfl (.tmp 21) (.tmp 22) rfl rfl (heap_alloc_new _ _) hz rfl (hown.trans (by with_reducible (repeat (first | exact Ext.refl _ | apply Ext.drewN | apply Ext.drew | apply Ext.alloc | (refine Ext.set ?_ (by first | (simp; done) | (simp; omega) | omega) _) | (refine Ext.trans ?_ (by assumption)))))) (by omega) ?_; intro g3 c3 w3 hown3))
        go_roundw
        case rel => exact ⟨k2, b :: l, g3, c3, by first | rfl | go_num, rfl, hk2b, hown3, HN.out⟩
        case measure => simp [intOf]; omega
      · have hnd : d = (q : Int) := by omega
        clear hdq hq hbn hb
        subst hnd
        go_wp2_with (first | (at_builtin; refine preB b rfl (.tmp 21) (.tmp 22) rfl rfl (heap_alloc_new _ _) hz rfl (hown.trans (by with_reducible (repeat (first | exact Ext.refl _ | apply Ext.drewN | apply Ext.drew | apply Ext.alloc | (refine Ext.set ?_ (by first | (simp; done) | (simp; omega) | omega) _) | (refine Ext.trans ?_ (by assumption)))))) (by omega) ?_; intro g3 c3 w3 hown3))
        go_roundw
        case rel => exact ⟨k2, b :: l, g3, c3, by first | rfl | go_num, rfl, hk2b, hown3, HN.out⟩
        case measure => simp [intOf]; omega
theorem Ext.grow {a w : World} (os : Array Obj) (h : Ext a w) : Ext a (Go.Sort.grow w os) :=
  ⟨h.os, h.tape, h.output, Nat.le_trans h.size (by simp), fun i hi => (Go.Sort.heap_grow_old w os (Nat.lt_of_lt_of_le hi h.size)).trans (h.block i hi)⟩
theorem Decimal_any (n : Int) (hn : -9223372036854775808 ≤ n ∧ n ≤ 9223372036854775807) (w : World) (htab : Lib.TabIs Tryd.prog w "internal/strconv.uint64pow10" .u64 Lib.pow10Tab) :
    Calls Tryd.prog 26 #[.int .i64 n] w fun e w' => e = .returned (.string (dec n)) ∧ Ext w w' := by
  go_enter Tryd.func26, Tryd.ntmps26
  go_wp2_with (first | (go_at_call 59; (with_reducible refine (Tryd.strconv_FormatInt_10 n hn.1 hn.2 _ htab).mono ?_); rintro e w1 ⟨rfl, k, os, rfl⟩))
  go_ret
  exact ⟨rfl, (Ext.grow os (Ext.drewN (Ext.refl _) k))⟩
end Go.Proofs.YtinkaglngblddaaDoor
