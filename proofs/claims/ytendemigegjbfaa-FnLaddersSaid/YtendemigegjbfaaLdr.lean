/- Pictures of throws: contracts of l04Digit, ladder, l18Lines. No condition but the stated bounds. -/
import Derived.Test.YtendemigegjbfaaAcs
import Derived.Test.YtendemigegjbfaaLin
import Derived.Test.YtendemigegjbfaaByc
namespace Go.Proofs.Ytendemigegjbfaa
set_option linter.unusedVariables false
set_option linter.unusedSimpArgs false
open Go.RowKit Go.Joins

/-- 'append(out, y)' in a plain region onto a row of any cells, where another row lies between lo and hi. -/
theorem appGB {e : TypeId} {m bytes : Nat} {w W : World} {v : Value} {n : Nat} {cs ys : List Value} {lo hi' : Nat} {ops : Array Oper} {rest : List Oper} {o : Oper} {a : Act} {Q : Exit → Act → World → Prop} (hI : ElG Try.prog e m bytes) (hm : 0 < m ∧ bytes ≤ 512) (hgd : o.guard = none) (s x : Operand) {t : TypeId} (ht : Try.prog.underlying t = some (.slice e))
    (ho : o.op = .call { callee := .builtin .append, args := #[s, x], argTypes := #[t, t] }) (hs : a.eval s = v) (hown : OwnG e m w W v n cs) (hap : Apart lo hi' v) (hhi : hi' ≤ W.heap.size) (hn : n ≤ 1000000) {B : Nat}
    (hx : a.eval x = .slice (some ⟨B, 0, none⟩) 1 1) {ar : Array Value} {t' : TypeId} {fr : Nat × Nat} (hB : W.heap[B]? = some (.cells ar t' fr)) (hc : ar.toList = ys) (hl : ys.length = m) (h1 : ∀ u ∈ ys, u.oneCell' = true)
    (h : ∀ v' w', OwnG e m w w' v' (n + 1) (cs ++ ys) → Apart lo hi' v' → W.grownBy w' v.ownBlock → wpList Try.prog ops Q rest (a.put o.dst v') w') :
    wpList Try.prog ops Q (o :: rest) a W := by
  obtain ⟨i, z, hi, hz0, hz1, hz2, hz3⟩ := hI
  refine wpList_append_lies W hgd s x t ho w.heap.size e i z m bytes ht hi hz0 hz1 hz2 hz3 hm.1 v n _ hs hown.own ⟨B, 0, none⟩ 1 1 ys hx (by rw [hl, Nat.one_mul]) (newsG hB hc) h1 (by omega) (by unfold maxLen; omega) ?_ hown.ext.size W.heap.size rfl ?_
  · exact Nat.le_trans (Nat.mul_le_mul (show n + 1 ≤ 1000001 by omega) hm.2) (by omega)
  · intro g cap w' ho' hg hat _
    refine h _ _ ⟨ho', hown.ext.grown hg (fun k hk => (World.ownsRow.lt hown.own k hk).1)⟩ (fun k hk => ?_) hg
    simp [Value.ownBlock] at hk
    subst hk
    rcases hat with h1 | h1
    · exact hap _ h1
    · right; omega
theorem chr_cases (h : Int → Int) (b : Nat) (p : Int) : (chr h b p = 42 ∧ plr h b = p) ∨ (chr h b p = 124 ∧ ¬ plr h b = p ∧ p < (pls h b).2) ∨ (chr h b p = 46 ∧ ¬ plr h b = p ∧ ¬ p < (pls h b).2) := by
  unfold chr
  by_cases h1 : plr h b = p
  · rw [if_pos h1]; exact .inl ⟨rfl, h1⟩
  · rw [if_neg h1]
    by_cases h2 : p < (pls h b).2
    · rw [if_pos h2]; exact .inr (.inl ⟨rfl, h1, h2⟩)
    · rw [if_neg h2]; exact .inr (.inr ⟨rfl, h1, h2⟩)
/-- The byte of a prop at a beat. -/
def ch8 (h : Int → Int) (b : Nat) (p : Int) : UInt8 := UInt8.ofNat (chr h b p).toNat
theorem ch8_eq (h : Int → Int) (b : Nat) (p : Int) : ((ch8 h b p).toNat : Int) = chr h b p := by
  unfold ch8
  rcases chr_cases h b p with ⟨e, _⟩ | ⟨e, _⟩ | ⟨e, _⟩ <;> rw [e] <;> rfl
/-- The bytes of a line as far as column j. -/
def lnb (h : Int → Int) (b j : Nat) : List UInt8 := [UInt8.ofNat (dgt (h b).toNat), 32] ++ (List.range j).map fun p : Nat => ch8 h b p
theorem lnb_succ (h : Int → Int) (b j : Nat) : lnb h b (j + 1) = lnb h b j ++ [ch8 h b j] := by simp [lnb, List.range_succ]
theorem lnb_len (h : Int → Int) (b j : Nat) : (lnb h b j).length = j + 2 := by simp [lnb]
/-- The lines of the first k beats. -/
def ldl (h : Int → Int) (N k : Nat) : List ByteArray := (List.range k).map fun b : Nat => ⟨(lnb h b N).toArray⟩
theorem ldl_succ (h : Int → Int) (N k : Nat) : (ldl h N (k + 1)).map Value.string = (ldl h N k).map Value.string ++ [.string ⟨(lnb h k N).toArray⟩] := by simp [ldl, List.range_succ]
theorem cnt_max {n : Nat} {h : Int → Int} (e : Endless h n) (k : Nat) : (pls h (k + 1)).2 = max (pls h k).2 (plr h k + 1) := by
  have hb := cnt_bd h k
  by_cases h0 : h k = 0
  · rw [cnt_zero h0, plr_zero h0]; omega
  · by_cases h1 : frm h k < 0
    · rw [cnt_new h0 h1, plr_new h0 h1]; omega
    · have := (plr_bd e k).2 h0
      rw [cnt_old h0 h1] at this
      rw [cnt_old h0 h1]; omega
theorem digD : ∀ d : Fin 16, ((⟨#[48, 49, 50, 51, 52, 53, 54, 55, 56, 57, 97, 98, 99, 100, 101, 102]⟩ : ByteArray).extract d.val (d.val + 1)) = ⟨#[UInt8.ofNat (dgt d.val)]⟩ := by decide
set_option maxRecDepth 100000 in
theorem l04Digit_any (d : Nat) (hd : d < 16) (w : World) :
    Calls Try.prog 80 #[.int .i64 d] w fun e w' => e = .returned (.string ⟨#[UInt8.ofNat (dgt d)]⟩) ∧ w = w' := by
  have h1 : (0 : Int) ≤ d := by omega
  have h2 : (d : Int) + 1 ≤ 16 := by omega
  have h3 : d + 1 ≤ (⟨#[48, 49, 50, 51, 52, 53, 54, 55, 56, 57, 97, 98, 99, 100, 101, 102]⟩ : ByteArray).size := by show d + 1 ≤ 16; omega
  have hsl : ∀ wx : World, (Instr.slice 9 (.string ⟨#[48, 49, 50, 51, 52, 53, 54, 55, 56, 57, 97, 98, 99, 100, 101, 102]⟩) (some (.int .i64 (d : Int))) (some (.int .i64 ((d : Int) + 1))) none).run Try.prog wx = .ok (.string ⟨#[UInt8.ofNat (dgt d)]⟩) wx := fun wx => by
    have h := run_slice_string (P := Try.prog) wx 9 ⟨#[48, 49, 50, 51, 52, 53, 54, 55, 56, 57, 97, 98, 99, 100, 101, 102]⟩ .i64 .i64 (d : Int) ((d : Int) + 1) Try.underlying9 h1 (by omega) h2
    rw [show ((d : Int) + 1).toNat = d + 1 by omega, show (d : Int).toNat = d by omega, digD ⟨d, hd⟩] at h
    exact h
  generalize UInt8.ofNat (dgt d) = x8 at *
  go_enter Try.func80, Try.ntmps80
  go_wp2
  go_ret
  exact ⟨rfl, rfl⟩
/-- A new row of two bytes. -/
theorem ownB_two {w W : World} (hx : Ext w W) (x y : UInt8) : OwnB w (W.alloc (.cells #[.int .u8 (x.toNat : Int), .int .u8 (y.toNat : Int)] 5)) (.slice (some ⟨W.heap.size, 0, none⟩) 2 2) [x, y] :=
  ⟨⟨W.heap.size, 2, _, (0, 0), rfl, hx.size, heap_alloc_new _ _, .inr rfl, Nat.le_refl _, by unfold maxLen; omega, rfl, rfl⟩, hx.alloc _⟩
set_option maxHeartbeats 4000000 in
set_option maxRecDepth 100000 in
theorem ladder_any (A : Option Addr) (n c : Nat) (xs : List Int) (t N : Nat) (w : World) (hI : Ints w A n xs) (hv : vpat xs = true) (ht : t ≤ 60) (hN : prp xs = N) :
    Calls Try.prog 53 #[.slice A n c, .int .i64 t] w fun e w' => ∃ A1 c1, e = .returned (.slice A1 t c1) ∧ OwnG 9 1 w w' (.slice A1 t c1) t ((ldl (thAt xs) N t).map Value.string) := by
  have HV := Lib.hid hv
  have hpb := prp_bd hv
  have HN := Lib.hid hN
  rw [hN] at hpb
  clear hv hN
  go_enter Try.func53, Try.ntmps53
  go_wp2_with (first | (go_at_call 34; (with_reducible refine (propsAt_any _ _ _ xs t _ (hI.ext (by with_reducible (repeat (first | exact Ext.refl _ | apply Ext.drewN | apply Ext.drew | apply Ext.alloc | (refine Ext.set ?_ (by first | (simp; done) | (simp; omega) | omega) _) | (refine Ext.trans ?_ (by assumption)))))) HV.out (by omega)).mono ?_); rintro e w2 ⟨A1, c1, rfl, ho⟩))
  have hrg := Lib.hid (pls_rng (thAt_endless HV.out) t)
  have hrow0 := ho.row
  have hs12 := ho.ext.size
  have hE0 : OwnG 9 1 w w2 (.slice (some ⟨w.heap.size, 0, none⟩) 0 0) 0 [] := (ownG_empty (Ext.refl w) _ _).trans ho.ext
  simp at hrow0 hs12
  go_loopw [5, 6, 16, 7, 8, 9, 10, 28, 34, 41] (fun v s i _ _ _ _ _ _ _ wr => ∃ k : Nat, k ≤ t ∧ i = .int .i64 k ∧ s = .int .i64 (pls (thAt xs) k).2 ∧ OwnG 9 1 w wr v k ((ldl (thAt xs) N k).map Value.string) ∧ Apart (w.heap.size + 1) w2.heap.size v ∧ Row wr (w.heap.size + 1) w2.heap.size 2 1 A1 t c1 (pls (thAt xs) t).1 ∧ w2.heap.size ≤ wr.heap.size) (fun _ _ i _ _ _ _ _ _ _ _ => t - (intOf i).toNat)
  case atStart => exact ⟨0, Nat.zero_le _, rfl, rfl, hE0, Apart.of_lt (by omega) _ _, hrow0, Nat.le_refl _⟩
  case round =>
    obtain ⟨k, hk, rfl, rfl, hown, hap, hrow, hhi⟩ := hrel
    by_cases hlt : k < t
    · have hxr := hown.ext
      have hJ := hrow.ints (by omega) (fun y hy => by have := hrg.out y hy; omega)
      rw [Nat.mul_one] at hJ
      obtain ⟨b, off, hA, hb, hcell⟩ := hJ.at_ (by omega)
      have hc := hcell k hlt
      rw [pls_get (thAt xs) hlt] at hc
      subst hA
      clear hcell
      have hki : (k : Int) < t := by omega
      have hcb := cnt_bd (thAt xs) k
      have hpr := plr_rng (thAt_endless HV.out) k
      have hth := thAt_bd HV.out (k : Int)
      obtain ⟨d, hd⟩ : ∃ d : Nat, thAt xs k = d := ⟨(thAt xs k).toNat, by omega⟩
      have hd16 : d < 16 := by omega
      have HD := Lib.hid hd
      have hdi : (d : Int) < 16 := by omega
      have hsz : d < (⟨#[48, 49, 50, 51, 52, 53, 54, 55, 56, 57, 97, 98, 99, 100, 101, 102]⟩ : ByteArray).size := hd16
      obtain ⟨x8, hx8⟩ : ∃ x8 : UInt8, UInt8.ofNat (dgt d) = x8 := ⟨_, rfl⟩
      have hbyte : ((⟨#[48, 49, 50, 51, 52, 53, 54, 55, 56, 57, 97, 98, 99, 100, 101, 102]⟩ : ByteArray)[d]'hsz).toNat = x8.toNat := by
        rw [hexD ⟨d, hd16⟩, ← hx8]
        have : dgt d ≤ 102 := by unfold dgt; split <;> omega
        simp
        omega
      have HL0 : Hid (lnb (thAt xs) k 0 = [x8, 32]) := by show _ = _; unfold lnb; rw [HD.out, ← hx8]; rfl
      have HCM := Lib.hid (cnt_max (thAt_endless HV.out) k)
      have HLS := Lib.hid (ldl_succ (thAt xs) N k)
      clear hx8 hd hth
      generalize hplr : plr (thAt xs) k = y at *
      have HY := Lib.hid hplr
      clear hplr
      go_wp2_with (first | (go_at_call 66; (with_reducible refine (throwAt_any _ _ _ xs _ _ (hI.ext (by with_reducible (repeat (first | exact Ext.refl _ | apply Ext.drewN | apply Ext.drew | apply Ext.alloc | (refine Ext.set ?_ (by first | (simp; done) | (simp; omega) | omega) _) | (refine Ext.trans ?_ (by assumption)))))) HV.out).mono ?_); rw [HD.out]; rintro e w' ⟨rfl, rfl⟩) | (go_at_call 52; (with_reducible refine (propsOf_is _ _ _ xs _ (hI.ext (by with_reducible (repeat (first | exact Ext.refl _ | apply Ext.drewN | apply Ext.drew | apply Ext.alloc | (refine Ext.set ?_ (by first | (simp; done) | (simp; omega) | omega) _) | (refine Ext.trans ?_ (by assumption)))))) HV.out).mono ?_); rw [HN.out]; rintro e w' ⟨rfl, rfl⟩))
      go_loopw [28, 9, 10, 34, 41] (fun i v _ _ _ wy => ∃ j : Nat, j ≤ N ∧ i = .int .i64 j ∧ OwnB wr wy v (lnb (thAt xs) k j)) (fun i _ _ _ _ _ => N - (intOf i).toNat)
      case atStart => exact ⟨0, by omega, rfl, by rw [HL0.out]; exact ownB_two (Ext.refl _) x8 32⟩
      case round =>
        obtain ⟨j, hj, rfl, hown2⟩ := hrel
        have hx2 := hown2.ext
        by_cases hjl : j < N
        · have hji : (j : Int) < N := by omega
          have hll := lnb_len (thAt xs) k j
          have HA := Lib.hid (lnb_succ (thAt xs) k j)
          rcases chr_cases (thAt xs) k j with ⟨hch, hp⟩ | ⟨hch, hp, hq⟩ | ⟨hch, hp, hq⟩
          · have HC8 : Hid (ch8 (thAt xs) k j = 42) := by show _ = _; unfold ch8; rw [hch]; rfl
            rw [HC8.out] at HA
            rw [HY.out] at hp
            subst hp
            go_wp2_with (first | (at_builtin; refine appBy rfl _ _ rfl rfl (hown2.trans (by with_reducible (repeat (first | exact Ext.refl _ | apply Ext.drewN | apply Ext.drew | apply Ext.alloc | (refine Ext.set ?_ (by first | (simp; done) | (simp; omega) | omega) _) | (refine Ext.trans ?_ (by assumption)))))) (by omega) 42 rfl ((cell_of_block (heap_alloc_new _ _) 0).trans rfl) ?_; intro v' w3 hown'))
            go_roundw
            case rel => exact ⟨j + 1, by omega, by go_num, by rw [HA.out]; exact hown'⟩
            case measure => simp [intOf]; omega
          · have HC8 : Hid (ch8 (thAt xs) k j = 124) := by show _ = _; unfold ch8; rw [hch]; rfl
            rw [HC8.out] at HA
            rw [HY.out] at hp
            have hp1 : ((j : Int) == y) = false := by simp; omega
            go_wp2_with (first | (at_builtin; refine appBy rfl _ _ rfl rfl (hown2.trans (by with_reducible (repeat (first | exact Ext.refl _ | apply Ext.drewN | apply Ext.drew | apply Ext.alloc | (refine Ext.set ?_ (by first | (simp; done) | (simp; omega) | omega) _) | (refine Ext.trans ?_ (by assumption)))))) (by omega) 124 rfl ((cell_of_block (heap_alloc_new _ _) 0).trans rfl) ?_; intro v' w3 hown'))
            go_roundw
            case rel => exact ⟨j + 1, by omega, by go_num, by rw [HA.out]; exact hown'⟩
            case measure => simp [intOf]; omega
          · have HC8 : Hid (ch8 (thAt xs) k j = 46) := by show _ = _; unfold ch8; rw [hch]; rfl
            rw [HC8.out] at HA
            rw [HY.out] at hp
            have hp1 : ((j : Int) == y) = false := by simp; omega
            go_wp2_with (first | (at_builtin; refine appBy rfl _ _ rfl rfl (hown2.trans (by with_reducible (repeat (first | exact Ext.refl _ | apply Ext.drewN | apply Ext.drew | apply Ext.alloc | (refine Ext.set ?_ (by first | (simp; done) | (simp; omega) | omega) _) | (refine Ext.trans ?_ (by assumption)))))) (by omega) 46 rfl ((cell_of_block (heap_alloc_new _ _) 0).trans rfl) ?_; intro v' w3 hown'))
            go_roundw
            case rel => exact ⟨j + 1, by omega, by go_num, by rw [HA.out]; exact hown'⟩
            case measure => simp [intOf]; omega
        · obtain rfl : j = N := by omega
          obtain ⟨g, c3, rfl, hcv⟩ := convB hown2
          have hgz := hx2.size
          go_wp2_with (first | (at_builtin; refine appGB elStr (by omega) rfl _ _ Try.underlying31 rfl rfl (hown.trans (by with_reducible (repeat (first | exact Ext.refl _ | apply Ext.drewN | apply Ext.drew | apply Ext.alloc | (refine Ext.set ?_ (by first | (simp; done) | (simp; omega) | omega) _) | (refine Ext.trans ?_ (by assumption)))))) hap (by simp; omega) (by omega) rfl (heap_alloc_new _ _) (ys := [.string ⟨(lnb (thAt xs) k j).toArray⟩]) (by rfl) (by rfl) (by simp [Value.oneCell']) ?_; intro v' w3 hown' hap' hg'))
          go_roundw
          case rel => exact ⟨k + 1, by omega, by go_num, by rw [HCM.out], by rw [HLS.out]; exact hown', hap', hrow.stays (hx2.alloc _) hg' hap, Nat.le_trans hhi (by have := hg'.size; simp at this; omega)⟩
          case measure => simp [intOf]; omega
    · obtain rfl : k = t := by omega
      obtain ⟨A3, c3, rfl⟩ := hown.forms
      go_wp2
      go_ret
      exact ⟨A3, c3, rfl, hown⟩
set_option maxHeartbeats 4000000 in
set_option maxRecDepth 100000 in
theorem l18Lines_any (A : Option Addr) (n c : Nat) (xs : List Int) (t N : Nat) (w : World) (hI : Ints w A n xs) (hv : vpat xs = true) (ht : t ≤ 60) (hN : prp xs = N) :
    Calls Try.prog 54 #[.slice A n c, .int .i64 t] w fun e w' => ∃ A1 c1, e = .returned (.slice A1 t c1) ∧ OwnG 9 1 w w' (.slice A1 t c1) t ((ldl (thAt xs) N t).map Value.string) := by
  have HV := Lib.hid hv
  have hpb := prp_bd hv
  have HN := Lib.hid hN
  rw [hN] at hpb
  clear hv hN
  go_enter Try.func54, Try.ntmps54
  go_wp2_with (first | (go_at_call 36; (with_reducible refine (l18Props_any _ _ _ xs t _ (hI.ext (by with_reducible (repeat (first | exact Ext.refl _ | apply Ext.drewN | apply Ext.drew | apply Ext.alloc | (refine Ext.set ?_ (by first | (simp; done) | (simp; omega) | omega) _) | (refine Ext.trans ?_ (by assumption)))))) HV.out (by omega)).mono ?_); rintro e w2 ⟨A1, c1, rfl, ho⟩))
  have hrg := Lib.hid (pls_rng (thAt_endless HV.out) t)
  have hJ := ho.row.ints (by omega) (fun y hy => by have := hrg.out y hy; omega)
  rw [Nat.mul_one] at hJ
  have hxw : Ext w w2 := Ext.trans (by with_reducible (repeat (first | exact Ext.refl _ | apply Ext.drewN | apply Ext.drew | apply Ext.alloc | (refine Ext.set ?_ (by first | (simp; done) | (simp; omega) | omega) _) | (refine Ext.trans ?_ (by assumption))))) ho.ext
  go_loopw [6, 7, 8, 9] (fun v i _ _ wr => ∃ k : Nat, k ≤ t ∧ i = .int .i64 k ∧ OwnG 9 1 w2 wr v k ((ldl (thAt xs) N k).map Value.string)) (fun _ i _ _ _ => t - (intOf i).toNat)
  case atStart => exact ⟨0, Nat.zero_le _, rfl, ownG_empty (Ext.refl _) _ _⟩
  case round =>
    obtain ⟨k, hk, rfl, hown⟩ := hrel
    by_cases hlt : k < t
    · have hxr := hown.ext
      have hx0 : Ext w wr := hxw.trans hxr
      have hth := thAt_bd HV.out (k : Int)
      obtain ⟨d, hd⟩ : ∃ d : Nat, thAt xs k = d := ⟨(thAt xs k).toNat, by omega⟩
      have hd16 : d < 16 := by omega
      have HD := Lib.hid hd
      have hki : (k : Int) < t := by omega
      obtain ⟨s1, hs1⟩ : ∃ s1 : ByteArray, (⟨#[UInt8.ofNat (dgt d)]⟩ : ByteArray) = s1 := ⟨_, rfl⟩
      have HS1 := Lib.hid hs1
      have hsz1 : s1.size = 1 := by rw [← hs1]; rfl
      obtain ⟨s2, hs2⟩ : ∃ s2 : ByteArray, s1 ++ ⟨#[32]⟩ = s2 := ⟨_, rfl⟩
      have hsz2 : s2.size = 2 := by rw [← hs2, ByteArray.size_append, hsz1]; rfl
      have HL0 : Hid (s2.data.toList = lnb (thAt xs) k 0) := by
        show _ = _
        rw [← hs2, ← hs1, ByteArray.data_append, Array.toList_append]
        unfold lnb
        rw [HD.out]
        rfl
      have hcv := fun W => run_bytes_of_string (P := Try.prog) W 9 22 5 s2 Try.underlying9 Try.underlying22 Try.underlying5
      have HLS := Lib.hid (ldl_succ (thAt xs) N k)
      clear hs1 hd hth
      go_wp2_with (first | (go_at_call 50; (with_reducible refine (l02At_any _ _ _ xs _ _ (hI.ext (by with_reducible (repeat (first | exact Ext.refl _ | apply Ext.drewN | apply Ext.drew | apply Ext.alloc | (refine Ext.set ?_ (by first | (simp; done) | (simp; omega) | omega) _) | (refine Ext.trans ?_ (by assumption)))))) HV.out).mono ?_); rw [HD.out]; rintro e w' ⟨rfl, rfl⟩) | (go_at_call 80; (with_reducible refine (l04Digit_any d hd16 _).mono ?_); rw [HS1.out]; rintro e w' ⟨rfl, rfl⟩))
      go_loopw [9, 8] (fun i v wy => ∃ j : Nat, j ≤ N ∧ i = .int .i64 j ∧ OwnB wr wy v (lnb (thAt xs) k j)) (fun i _ _ => N - (intOf i).toNat)
      case atStart =>
        refine ⟨0, by omega, rfl, ?_⟩
        rw [← HL0.out]
        have := ownB_conv wr wr s2 (by omega) (Ext.refl _)
        first | exact this | (rw [hsz2] at this; exact this) | (simpa [hsz2] using this)
      case round =>
        obtain ⟨j, hj, rfl, hown2⟩ := hrel
        have hx2 := hown2.ext
        by_cases hjl : j < N
        · have hji : (j : Int) < N := by omega
          have hll := lnb_len (thAt xs) k j
          have HA := Lib.hid (lnb_succ (thAt xs) k j)
          have HC8 : Hid (chr (thAt xs) k j = ((ch8 (thAt xs) k j).toNat : Int)) := (ch8_eq _ _ _).symm
          generalize ch8 (thAt xs) k j = y8 at *
          go_wp2_with (first | (go_at_call 37; (with_reducible refine (l02Props_any _ _ _ xs _ (hI.ext (hx0.trans hx2)) HV.out).mono ?_); rw [HN.out]; rintro e w' ⟨rfl, rfl⟩) | (go_at_call 38; (with_reducible refine (l18Char_any _ _ _ xs _ k _ (hJ.ext (hxr.trans hx2)) HV.out hlt (by omega) (by omega)).mono ?_); rw [HC8.out]; rintro e w' ⟨rfl, rfl⟩) | (at_builtin; refine appBy rfl _ _ rfl rfl (hown2.trans (by with_reducible (repeat (first | exact Ext.refl _ | apply Ext.drewN | apply Ext.drew | apply Ext.alloc | (refine Ext.set ?_ (by first | (simp; done) | (simp; omega) | omega) _) | (refine Ext.trans ?_ (by assumption)))))) (by omega) y8 rfl ((cell_of_block (heap_alloc_new _ _) 0).trans rfl) ?_; intro v' w3 hown'))
          go_roundw
          case rel => exact ⟨j + 1, by omega, by go_num, by rw [HA.out]; exact hown'⟩
          case measure => simp [intOf]; omega
        · obtain rfl : j = N := by omega
          obtain ⟨g, c3, rfl, hcv2⟩ := convB hown2
          clear hcv
          go_wp2_with (first | (go_at_call 37; (with_reducible refine (l02Props_any _ _ _ xs _ (hI.ext (hx0.trans hx2)) HV.out).mono ?_); rw [HN.out]; rintro e w' ⟨rfl, rfl⟩) | (at_builtin; refine appG elStr (by omega) rfl _ _ Try.underlying31 rfl rfl (hown.trans (by with_reducible (repeat (first | exact Ext.refl _ | apply Ext.drewN | apply Ext.drew | apply Ext.alloc | (refine Ext.set ?_ (by first | (simp; done) | (simp; omega) | omega) _) | (refine Ext.trans ?_ (by assumption)))))) (by omega) rfl (heap_alloc_new _ _) (ys := [.string ⟨(lnb (thAt xs) k j).toArray⟩]) (by rfl) (by rfl) (by simp [Value.oneCell']) ?_; intro v' w3 hown'))
          go_roundw
          case rel => exact ⟨k + 1, by omega, by go_num, by rw [HLS.out]; exact hown'⟩
          case measure => simp [intOf]; omega
    · obtain rfl : k = t := by omega
      obtain ⟨A3, c3, rfl⟩ := hown.forms
      have HT := Lib.hid (hown.rebase hxw)
      go_wp2
      go_ret
      exact ⟨A3, c3, rfl, HT.out⟩
end Go.Proofs.Ytendemigegjbfaa
