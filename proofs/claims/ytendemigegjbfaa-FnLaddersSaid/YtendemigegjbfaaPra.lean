/- Which props are thrown at the beats: contracts of propsAt, l18Props, and of the codes of ladders. No condition but the stated bounds. -/
import Derived.Test.YtendemigegjbfaaLfr
namespace Go.Proofs.Ytendemigegjbfaa
set_option linter.unusedVariables false
set_option linter.unusedSimpArgs false
open Go.RowKit

set_option maxHeartbeats 2000000 in
theorem propsAt_any (A : Option Addr) (n c : Nat) (xs : List Int) (t : Nat) (w : World) (hI : Ints w A n xs) (hv : vpat xs = true) (ht : t ≤ 200) :
    Calls Try.prog 34 #[.slice A n c, .int .i64 t] w fun e w' => ∃ A1 c1, e = .returned (.slice A1 t c1) ∧ OwnR 2 1 w w' (.slice A1 t c1) t (pls (thAt xs) t).1 := by
  have HV := Lib.hid hv
  clear hv
  have HT0 : Hid (∀ (wr : World) (v : Value), OwnR 2 1 w wr v t (pls (thAt xs) t).1 → ∃ A1 c1, Ending.returned v = .returned (.slice A1 t c1) ∧ OwnR 2 1 w wr (.slice A1 t c1) t (pls (thAt xs) t).1) := by
    intro wr v ho
    obtain ⟨A1, c1, rfl⟩ := ho.forms
    exact ⟨A1, c1, rfl, ho⟩
  go_enter Try.func34, Try.ntmps34
  go_wp2
  go_loopw [5, 6, 11, 7, 8, 24, 32] (fun v s i _ _ _ _ wr => ∃ k : Nat, k ≤ t ∧ i = .int .i64 k ∧ s = .int .i64 (pls (thAt xs) k).2 ∧ OwnR 2 1 w wr v k (pls (thAt xs) k).1) (fun _ _ i _ _ _ _ _ => t - (intOf i).toNat)
  case atStart => exact ⟨0, Nat.zero_le _, rfl, rfl, ownR_empty (Ext.refl _) _ _⟩
  case round =>
    obtain ⟨k, hk, rfl, rfl, hown⟩ := hrel
    by_cases hlt : k < t
    · have hxr := hown.ext
      have hcb := cnt_bd (thAt xs) k
      have hfb := frm_bd (thAt_endless HV.out) (k : Int)
      have hrg := Lib.hid (pls_rng (thAt_endless HV.out) k)
      by_cases h0 : thAt xs k = 0
      · have HS : Hid ((pls (thAt xs) (k + 1)).1 = (pls (thAt xs) k).1 ++ [-1]) := by show _ = _; rw [pls_zero h0]
        have HC : Hid ((pls (thAt xs) (k + 1)).2 = (pls (thAt xs) k).2) := cnt_zero h0
        generalize hf : frm (thAt xs) k = f at hfb
        have HF := Lib.hid hf
        clear hf
        go_wp2_with (first | (go_at_call 65; (with_reducible refine (landsFrom_is _ _ _ xs _ _ (hI.ext (by with_reducible (repeat (first | exact Ext.refl _ | apply Ext.drewN | apply Ext.drew | apply Ext.alloc | (refine Ext.set ?_ (by first | (simp; done) | (simp; omega) | omega) _) | (refine Ext.trans ?_ (by assumption)))))) HV.out (by omega) f HF.out).mono ?_); rintro e w1 ⟨rfl, hx1⟩) | (go_at_call 66; (with_reducible refine (throwAt_any _ _ _ xs _ _ (hI.ext (by with_reducible (repeat (first | exact Ext.refl _ | apply Ext.drewN | apply Ext.drew | apply Ext.alloc | (refine Ext.set ?_ (by first | (simp; done) | (simp; omega) | omega) _) | (refine Ext.trans ?_ (by assumption)))))) HV.out).mono ?_); rintro e w' ⟨rfl, rfl⟩) | (at_builtin; refine appM elInt (by omega) rfl _ _ Try.underlying24 rfl rfl (hown.trans (by with_reducible (repeat (first | exact Ext.refl _ | apply Ext.drewN | apply Ext.drew | apply Ext.alloc | (refine Ext.set ?_ (by first | (simp; done) | (simp; omega) | omega) _) | (refine Ext.trans ?_ (by assumption)))))) (by omega) rfl (heap_alloc_new _ _) (ys := [-1]) (by rfl) (by rfl) ?_; intro v' w3 hown'))
        go_roundw
        case rel => exact ⟨k + 1, by omega, by go_num, by rw [HC.out], by rw [HS.out]; exact hown'⟩
        case measure => simp [intOf]; omega
      · by_cases h1 : frm (thAt xs) k < 0
        · have HS : Hid ((pls (thAt xs) (k + 1)).1 = (pls (thAt xs) k).1 ++ [(pls (thAt xs) k).2]) := by show _ = _; rw [pls_new h0 h1]
          have HC : Hid ((pls (thAt xs) (k + 1)).2 = (pls (thAt xs) k).2 + 1) := cnt_new h0 h1
          generalize hf : frm (thAt xs) k = f at hfb h1
          have HF := Lib.hid hf
          clear hf
          go_wp2_with (first | (go_at_call 65; (with_reducible refine (landsFrom_is _ _ _ xs _ _ (hI.ext (by with_reducible (repeat (first | exact Ext.refl _ | apply Ext.drewN | apply Ext.drew | apply Ext.alloc | (refine Ext.set ?_ (by first | (simp; done) | (simp; omega) | omega) _) | (refine Ext.trans ?_ (by assumption)))))) HV.out (by omega) f HF.out).mono ?_); rintro e w1 ⟨rfl, hx1⟩) | (go_at_call 66; (with_reducible refine (throwAt_any _ _ _ xs _ _ (hI.ext (by with_reducible (repeat (first | exact Ext.refl _ | apply Ext.drewN | apply Ext.drew | apply Ext.alloc | (refine Ext.set ?_ (by first | (simp; done) | (simp; omega) | omega) _) | (refine Ext.trans ?_ (by assumption)))))) HV.out).mono ?_); rintro e w' ⟨rfl, rfl⟩) | (at_builtin; refine appM elInt (by omega) rfl _ _ Try.underlying24 rfl rfl (hown.trans (by with_reducible (repeat (first | exact Ext.refl _ | apply Ext.drewN | apply Ext.drew | apply Ext.alloc | (refine Ext.set ?_ (by first | (simp; done) | (simp; omega) | omega) _) | (refine Ext.trans ?_ (by assumption)))))) (by omega) rfl (heap_alloc_new _ _) (ys := [(pls (thAt xs) k).2]) (by rfl) (by rfl) ?_; intro v' w3 hown'))
          go_roundw
          case rel => exact ⟨k + 1, by omega, by go_num, by rw [HC.out], by rw [HS.out]; exact hown'⟩
          case measure => simp [intOf]; omega
        · have h2 := frm_lt (thAt_endless HV.out) (z := k) (by have := (thAt_bd HV.out k); omega)
          obtain ⟨f, hf⟩ : ∃ f : Nat, frm (thAt xs) k = f := ⟨(frm (thAt xs) k).toNat, by omega⟩
          have HS : Hid ((pls (thAt xs) (k + 1)).1 = (pls (thAt xs) k).1 ++ [(pls (thAt xs) k).1[f]?.getD 0]) := by show _ = _; rw [pls_old h0 h1, hf]; rfl
          have HC : Hid ((pls (thAt xs) (k + 1)).2 = (pls (thAt xs) k).2) := cnt_old h0 h1
          rw [hf] at h1 h2
          have HF := Lib.hid hf
          clear hf hfb
          have hfk : f < k := by omega
          obtain ⟨A2, c2, rfl⟩ := hown.forms
          have hJ := (hown.row.ints (by omega) (fun y hy => by have := hrg.out y hy; omega))
          rw [Nat.mul_one] at hJ
          obtain ⟨b2, off2, rfl, hb2, hcell2⟩ := hJ.at_ (by omega)
          have hc2 := hcell2 f hfk
          clear hcell2
          go_wp2_with (first | (go_at_call 65; (with_reducible refine (landsFrom_is _ _ _ xs _ _ (hI.ext (by with_reducible (repeat (first | exact Ext.refl _ | apply Ext.drewN | apply Ext.drew | apply Ext.alloc | (refine Ext.set ?_ (by first | (simp; done) | (simp; omega) | omega) _) | (refine Ext.trans ?_ (by assumption)))))) HV.out (by omega) f HF.out).mono ?_); rintro e w1 ⟨rfl, hx1⟩; have hc3 := hx1.cell hb2 hc2) | (go_at_call 66; (with_reducible refine (throwAt_any _ _ _ xs _ _ (hI.ext (by with_reducible (repeat (first | exact Ext.refl _ | apply Ext.drewN | apply Ext.drew | apply Ext.alloc | (refine Ext.set ?_ (by first | (simp; done) | (simp; omega) | omega) _) | (refine Ext.trans ?_ (by assumption)))))) HV.out).mono ?_); rintro e w' ⟨rfl, rfl⟩) | (at_builtin; refine appM elInt (by omega) rfl _ _ Try.underlying24 rfl rfl (hown.trans (by with_reducible (repeat (first | exact Ext.refl _ | apply Ext.drewN | apply Ext.drew | apply Ext.alloc | (refine Ext.set ?_ (by first | (simp; done) | (simp; omega) | omega) _) | (refine Ext.trans ?_ (by assumption)))))) (by omega) rfl (heap_alloc_new _ _) (ys := [(pls (thAt xs) k).1[f]?.getD 0]) (by rfl) (by rfl) ?_; intro v' w3 hown'))
          go_roundw
          case rel => exact ⟨k + 1, by omega, by go_num, by rw [HC.out], by rw [HS.out]; exact hown'⟩
          case measure => simp [intOf]; omega
    · obtain rfl : k = t := by omega
      go_wp2
      go_ret
      exact HT0.out _ _ hown
/-- What stands in the slot z when the first k beats are done. -/
def slv (h : Int → Int) (k : Nat) (z : Nat) : Int := if 0 ≤ frm h z ∧ frm h z < k then plr h (frm h z).toNat + 1 else 0
theorem slv_zero (h : Int → Int) (z : Nat) : slv h 0 z = 0 := by unfold slv; rw [if_neg (by omega)]
theorem slv_skip {n : Nat} {h : Int → Int} (e : Endless h n) {k : Nat} (h0 : h k = 0) (z : Nat) : slv h (k + 1) z = slv h k z := by
  unfold slv
  by_cases hz : frm h z = k
  · rw [if_pos (by omega), if_neg (by omega), hz, show ((k : Int)).toNat = k from rfl, plr_zero h0]
    rfl
  · by_cases h1 : 0 ≤ frm h z ∧ frm h z < k
    · rw [if_pos (by omega), if_pos h1]
    · rw [if_neg (by omega), if_neg h1]
theorem slv_put {n : Nat} {h : Int → Int} (e : Endless h n) {k m : Nat} (hm : h k = m) (z : Nat) : slv h (k + 1) z = if z = k + m then plr h k + 1 else slv h k z := by
  have hf := frm_of e (b := k) (z := ((k + m : Nat) : Int)) (by omega)
  unfold slv
  by_cases hz : z = k + m
  · rw [if_pos hz, hz, hf, if_pos (by omega)]
    rfl
  · rw [if_neg hz]
    have hne : frm h z ≠ k := by
      intro hh
      have := frm_add e z
      rw [hh] at this
      omega
    by_cases h1 : 0 ≤ frm h z ∧ frm h z < k
    · rw [if_pos (by omega), if_pos h1]
    · rw [if_neg (by omega), if_neg h1]
/-- What a slot says at its own beat: the prop that lands there, or nothing. -/
theorem slv_at {n : Nat} {h : Int → Int} (e : Endless h n) {k : Nat} (h0 : ¬ h k = 0) : slv h k k = if frm h k < 0 then 0 else plr h k + 1 := by
  have h2 := frm_lt e (z := k) (by have := e.bd k; omega)
  unfold slv
  by_cases h1 : frm h k < 0
  · rw [if_neg (by omega), if_pos h1]
  · rw [if_pos (by omega), if_neg h1, plr_old e h0 h1]
theorem slv_bd {n : Nat} {h : Int → Int} (e : Endless h n) (k z : Nat) (hz : z ≤ 1000) : 0 ≤ slv h k z ∧ slv h k z ≤ 1001 := by
  unfold slv
  split
  · have h1 := plr_rng e (frm h z).toNat
    have h2 := frm_bd e z
    omega
  · omega
/-- How far l18Props has come: the list v, and the slots. -/
structure Slots (w wr : World) (h : Int → Int) (t : Nat) (v : Value) (k : Nat) : Prop where
  out : wr.ownsRow (w.heap.size + 1) 2 1 v k ((pls h k).1.map (Value.int .i64))
  ext : Ext w wr
  big : w.heap.size < wr.heap.size
  row : ∃ sl, Row wr w.heap.size (w.heap.size + 1) 2 1 (some ⟨w.heap.size, 0, none⟩) (t + 16) (t + 16) sl ∧ ∀ z, z < t + 16 → sl[z]?.getD 0 = slv h k z
theorem Slots.cell {w wr : World} {h : Int → Int} {t : Nat} {v : Value} {k : Nat} (s : Slots w wr h t v k) {z : Nat} (hz : z < t + 16) : wr.cell? ⟨w.heap.size, z, none⟩ = some (.int .i64 (slv h k z)) ∧ wr.frozen? ⟨w.heap.size, z, none⟩ = false := by
  obtain ⟨sl, hr, hs⟩ := s.row
  have := hr.cellAt (p := z) (by omega)
  rw [hs z hz] at this
  exact this
/-- An append behind whatever was done to the slots. -/
theorem Slots.grown {w wr w' : World} {h : Int → Int} {t : Nat} {v v' : Value} {k : Nat} {o : Obj} (s : Slots w wr h t v k) (ho : w'.ownsRow (w.heap.size + 1) 2 1 v' (k + 1) (((pls h k).1 ++ [plr h k]).map (Value.int .i64))) (hg : (wr.alloc o).grownBy w' v.ownBlock) (hsk : ∀ z, slv h (k + 1) z = slv h k z) : Slots w w' h t v' (k + 1) := by
  have hv := World.ownsRow.lt s.out
  obtain ⟨sl, hr, hs⟩ := s.row
  refine ⟨by rw [pls_app]; exact ho, (s.ext.alloc o).grown hg (fun g hk => by have := (hv g hk).1; omega), ?_, sl, ?_, fun z hz => by rw [hsk]; exact hs z hz⟩
  · have := hg.size
    have := s.big
    simp at *
    omega
  · exact (hr.ext ((Ext.refl _).alloc o)).apart hg (fun g hk => by have := (hv g hk).1; omega)
/-- The slot of the beat of the landing is set. -/
theorem Slots.put {w wr : World} {h : Int → Int} {t : Nat} {v : Value} {k : Nat} (s : Slots w wr h t v k) {z : Nat} {u : Int} (hz : z < t + 16) :
    (wr.setCell ⟨w.heap.size, z, none⟩ (.int .i64 u)).ownsRow (w.heap.size + 1) 2 1 v k ((pls h k).1.map (Value.int .i64)) ∧ Ext w (wr.setCell ⟨w.heap.size, z, none⟩ (.int .i64 u)) ∧ ∃ sl, Row (wr.setCell ⟨w.heap.size, z, none⟩ (.int .i64 u)) w.heap.size (w.heap.size + 1) 2 1 (some ⟨w.heap.size, 0, none⟩) (t + 16) (t + 16) sl ∧ ∀ y, y < t + 16 → sl[y]?.getD 0 = if y = z then u else slv h k y := by
  obtain ⟨sl, hr, hs⟩ := s.row
  refine ⟨ownsRow_setCell_below s.out (a := ⟨w.heap.size, z, none⟩) (by simp) _, s.ext.set (Nat.le_refl _) _, sl.set z u, hr.store z u, fun y hy => ?_⟩
  have hl := hr.len
  by_cases e : y = z
  · subst e
    rw [if_pos rfl, List.getElem?_set_self (by omega)]
    rfl
  · rw [if_neg e, List.getElem?_set_ne (Ne.symm e)]
    exact hs y hy
theorem Slots.next {w wr w' : World} {h : Int → Int} {t : Nat} {v v' : Value} {k n m : Nat} {o : Obj} (e : Endless h n) (hm : h k = m) (hk : k < t) (s : Slots w wr h t v k) (ho : w'.ownsRow (w.heap.size + 1) 2 1 v' (k + 1) (((pls h k).1 ++ [plr h k]).map (Value.int .i64))) (hg : ((wr.setCell ⟨w.heap.size, k + m, none⟩ (.int .i64 (plr h k + 1))).alloc o).grownBy w' v.ownBlock) : Slots w w' h t v' (k + 1) := by
  have hv := World.ownsRow.lt s.out
  have hm15 := e.bd k
  obtain ⟨h1, h2, sl, hr, hs⟩ := s.put (z := k + m) (u := plr h k + 1) (by omega)
  refine ⟨by rw [pls_app]; exact ho, (h2.alloc o).grown hg (fun g hk => by have := (hv g hk).1; omega), ?_, sl, ?_, fun z hz => by rw [hs z hz, slv_put e hm]⟩
  · have h3 := hg.size
    have h4 := s.big
    simp [World.setCell] at h3
    omega
  · exact (hr.ext ((Ext.refl _).alloc o)).apart hg (fun g hk => by have := (hv g hk).1; omega)
theorem slots_zero (w : World) (h : Int → Int) (t : Nat) (ht : t ≤ 200) : Slots w ((w.alloc (.cells (madeCells #[.int .i64 0] (t + 16)) 2)).alloc (.cells #[] 2)) h t (.slice (some ⟨w.heap.size + 1, 0, none⟩) 0 0) 0 := by
  refine ⟨⟨by simp [pls], .inr ⟨w.heap.size + 1, 0, #[], rfl, Nat.le_refl _, ?_, Nat.le_refl _, by simp [maxLen], by simp, by simp [pls]⟩⟩, ((Ext.refl w).alloc _).alloc _, by simp; omega, List.replicate (t + 16) 0, ⟨⟨by simp, .inr ⟨w.heap.size, t + 16, madeCells #[.int .i64 0] (t + 16), rfl, Nat.le_refl _, ?_, Nat.le_refl _, ?_, by simp [size_madeCells], ?_⟩⟩, fun a ha => by cases ha; simp⟩, fun z hz => by rw [slv_zero]; simp [hz]⟩
  · have := heap_alloc_new (w.alloc (.cells (madeCells #[.int .i64 0] (t + 16)) 2)) (.cells #[] 2)
    simpa using this
  · rw [Below.heap_alloc _ _ _ (by simp)]
    exact heap_alloc_new _ _
  · unfold maxLen; omega
  · rw [toList_madeCells_one, List.map_replicate]
    simp
set_option maxHeartbeats 2000000 in
theorem l18Props_any (A : Option Addr) (n c : Nat) (xs : List Int) (t : Nat) (w : World) (hI : Ints w A n xs) (hv : vpat xs = true) (ht : t ≤ 200) :
    Calls Try.prog 36 #[.slice A n c, .int .i64 t] w fun e w' => ∃ A1 c1, e = .returned (.slice A1 t c1) ∧ OwnR 2 1 w w' (.slice A1 t c1) t (pls (thAt xs) t).1 := by
  have HV := Lib.hid hv
  clear hv
  have HT0 : Hid (∀ (wr : World) (v : Value), Slots w wr (thAt xs) t v t → ∃ A1 c1, Ending.returned v = .returned (.slice A1 t c1) ∧ OwnR 2 1 w wr (.slice A1 t c1) t (pls (thAt xs) t).1) := by
    intro wr v hs
    have ho : OwnR 2 1 w wr v t (pls (thAt xs) t).1 := ⟨Go.Joins.ownsRow_le hs.out (by omega), hs.ext⟩
    obtain ⟨A1, c1, rfl⟩ := ho.forms
    exact ⟨A1, c1, rfl, ho⟩
  have HZ := Lib.hid (slots_zero w (thAt xs) t ht)
  have hmk : ∀ W : World, (Instr.makeSlice 24 (.int .i64 ((t : Int) + 15 + 1)) (.int .i64 ((t : Int) + 15 + 1))).run Try.prog W = .ok (.slice (some ⟨W.heap.size, 0, none⟩) (t + 16) (t + 16)) (W.alloc (.cells (madeCells #[.int .i64 0] (t + 16)) 2)) := fun W => by
    have h := run_make_row' (P := Try.prog) 24 2 (.int .i64 0) 8 Try.underlying24 infoInt rfl .i64 .i64 (t + 16) (by omega) (by omega) W
    rw [show ((t + 16 : Nat) : Int) = (t : Int) + 15 + 1 by omega] at h
    exact h
  go_enter Try.func36, Try.ntmps36
  go_wp2
  clear hmk
  go_loopw [6, 7, 8, 9, 10] (fun v s i _ _ wr => ∃ k : Nat, k ≤ t ∧ i = .int .i64 k ∧ s = .int .i64 (pls (thAt xs) k).2 ∧ Slots w wr (thAt xs) t v k) (fun _ _ i _ _ _ => t - (intOf i).toNat)
  case atStart => exact ⟨0, Nat.zero_le _, rfl, rfl, HZ.out⟩
  case round =>
    obtain ⟨k, hk, rfl, rfl, hs⟩ := hrel
    by_cases hlt : k < t
    · have hxr := hs.ext
      have hbig := hs.big
      have hcb := cnt_bd (thAt xs) k
      have htb := thAt_bd HV.out (k : Int)
      by_cases h0 : thAt xs k = 0
      · have HC : Hid ((pls (thAt xs) (k + 1)).2 = (pls (thAt xs) k).2) := cnt_zero h0
        have HR : Hid (plr (thAt xs) k = -1) := plr_zero h0
        have HSK : Hid (∀ z, slv (thAt xs) (k + 1) z = slv (thAt xs) k z) := slv_skip (thAt_endless HV.out) h0
        have H0 := Lib.hid h0
        have hso := World.ownsRow.alloc hs.out (.cells #[.int .i64 (-1)] 2)
        have hlo : w.heap.size + 1 ≤ (wr.alloc (.cells #[.int .i64 (-1)] 2)).heap.size := by simp; omega
        go_wp2_with (first | (go_at_call 50; (with_reducible refine (l02At_any _ _ _ xs _ _ (hI.ext (by with_reducible (repeat (first | exact Ext.refl _ | apply Ext.drewN | apply Ext.drew | apply Ext.alloc | (refine Ext.set ?_ (by first | (simp; done) | (simp; omega) | omega) _) | (refine Ext.trans ?_ (by assumption)))))) HV.out).mono ?_); rintro e w' ⟨rfl, rfl⟩) | (at_builtin; refine appL elInt (by omega) rfl _ _ Try.underlying24 rfl rfl (hso) hlo (by omega) rfl (by first | exact heap_alloc_new _ _ | exact heap_alloc_set _ _ _ _) (ys := [-1]) (by rfl) (by rfl) ?_; intro v' w3 ho' hg'))
        go_roundw
        case rel => exact ⟨k + 1, by omega, by go_num, by rw [HC.out], hs.grown (by rw [HR.out]; exact ho') hg' HSK.out⟩
        case measure => simp [intOf]; omega
      · obtain ⟨m, hm⟩ : ∃ m : Nat, thAt xs k = m := ⟨(thAt xs k).toNat, by omega⟩
        have HM := Lib.hid hm
        have hm0 : m ≠ 0 := by omega
        have hm15 : m ≤ 15 := by omega
        obtain ⟨hc1, hf1⟩ := hs.cell (z := k) (by omega)
        obtain ⟨hc2, hf2⟩ := hs.cell (z := k + m) (by omega)
        rw [slv_at (thAt_endless HV.out) h0] at hc1
        have hpr := plr_rng (thAt_endless HV.out) k
        have hpb := ((plr_bd (thAt_endless HV.out) k).2 h0).1
        by_cases h1 : frm (thAt xs) k < 0
        · have HC : Hid ((pls (thAt xs) (k + 1)).2 = (pls (thAt xs) k).2 + 1) := cnt_new h0 h1
          have HR : Hid (plr (thAt xs) k = (pls (thAt xs) k).2) := plr_new h0 h1
          rw [if_pos h1] at hc1
          clear h1 h0 htb hpr hpb
          have hso := World.ownsRow.alloc (hs.put (z := k + m) (u := (pls (thAt xs) k).2 + 1) (by omega)).1 (.cells #[.int .i64 (pls (thAt xs) k).2] 2)
          have hlo : w.heap.size + 1 ≤ ((wr.setCell ⟨w.heap.size, k + m, none⟩ (.int .i64 ((pls (thAt xs) k).2 + 1))).alloc (.cells #[.int .i64 (pls (thAt xs) k).2] 2)).heap.size := by simp [World.setCell]; omega
          go_wp2_with (first | (go_at_call 50; (with_reducible refine (l02At_any _ _ _ xs _ _ (hI.ext (by with_reducible (repeat (first | exact Ext.refl _ | apply Ext.drewN | apply Ext.drew | apply Ext.alloc | (refine Ext.set ?_ (by first | (simp; done) | (simp; omega) | omega) _) | (refine Ext.trans ?_ (by assumption)))))) HV.out).mono ?_); rw [HM.out]; rintro e w' ⟨rfl, rfl⟩) | (at_builtin; refine appL elInt (by omega) rfl _ _ Try.underlying24 rfl rfl (hso) hlo (by omega) rfl (by first | exact heap_alloc_new _ _ | exact heap_alloc_set _ _ _ _) (ys := [(pls (thAt xs) k).2]) (by rfl) (by rfl) ?_; intro v' w3 ho' hg'))
          go_roundw
          case rel => exact ⟨k + 1, by omega, by go_num, by rw [HC.out], hs.next (thAt_endless HV.out) HM.out hlt (by rw [HR.out]; exact ho') (by rw [HR.out]; exact hg')⟩
          case measure => simp [intOf]; omega
        · have HC : Hid ((pls (thAt xs) (k + 1)).2 = (pls (thAt xs) k).2) := cnt_old h0 h1
          rw [if_neg h1] at hc1
          clear h1 h0 htb
          have hso := World.ownsRow.alloc (hs.put (z := k + m) (u := plr (thAt xs) k + 1) (by omega)).1 (.cells #[.int .i64 (plr (thAt xs) k)] 2)
          have hlo : w.heap.size + 1 ≤ ((wr.setCell ⟨w.heap.size, k + m, none⟩ (.int .i64 (plr (thAt xs) k + 1))).alloc (.cells #[.int .i64 (plr (thAt xs) k)] 2)).heap.size := by simp [World.setCell]; omega
          generalize hp : plr (thAt xs) k = p at *
          have HP := Lib.hid hp
          clear hp
          go_wp2_with (first | (go_at_call 50; (with_reducible refine (l02At_any _ _ _ xs _ _ (hI.ext (by with_reducible (repeat (first | exact Ext.refl _ | apply Ext.drewN | apply Ext.drew | apply Ext.alloc | (refine Ext.set ?_ (by first | (simp; done) | (simp; omega) | omega) _) | (refine Ext.trans ?_ (by assumption)))))) HV.out).mono ?_); rw [HM.out]; rintro e w' ⟨rfl, rfl⟩) | (at_builtin; refine appL elInt (by omega) rfl _ _ Try.underlying24 rfl rfl (hso) hlo (by omega) rfl (by first | exact heap_alloc_new _ _ | exact heap_alloc_set _ _ _ _) (ys := [p]) (by rfl) (by rfl) ?_; intro v' w3 ho' hg'))
          go_roundw
          case rel => exact ⟨k + 1, by omega, by go_num, by rw [HC.out], hs.next (thAt_endless HV.out) HM.out hlt (by rw [HP.out]; exact ho') (by rw [HP.out]; exact hg')⟩
          case measure => simp [intOf]; omega
    · obtain rfl : k = t := by omega
      go_wp2
      go_ret
      exact HT0.out _ _ hs
/-- The code of a pattern and a number of beats. -/
def rcd (xs : List Int) (t : Int) : Int := tcd (vpat xs) (btw t 0 60) true
theorem rcd_zero {xs : List Int} {t : Int} (h : rcd xs t = 0) : vpat xs = true ∧ 0 ≤ t ∧ t ≤ 60 := by
  obtain ⟨h1, h2, _⟩ := tcd_zero h
  exact ⟨h1, btw_iff.1 h2⟩
theorem l18Code_is (A : Option Addr) (n c : Nat) (xs : List Int) (t : Int) (w : World) (hI : Ints w A n xs) (r : Int) (hr : Hid (rcd xs t = r)) :
    Calls Try.prog 35 #[.slice A n c, .int .i64 t] w fun e w' => e = .returned (.int .i64 r) ∧ Ext w w' := by
  rw [← hr.out]
  clear hr
  unfold rcd
  cases hv : vpat xs
  · rw [show tcd false (btw t 0 60) true = 1 from rfl]
    go_enter Try.func35, Try.ntmps35
    go_wp2_with (first | (go_at_call 67; (with_reducible refine (l02Ok_is _ _ _ xs _ hv _ (hI.ext (by with_reducible (repeat (first | exact Ext.refl _ | apply Ext.drewN | apply Ext.drew | apply Ext.alloc | (refine Ext.set ?_ (by first | (simp; done) | (simp; omega) | omega) _) | (refine Ext.trans ?_ (by assumption))))))).mono ?_); rintro e w' ⟨rfl, n, rfl⟩))
    go_ret
    exact ⟨rfl, (by with_reducible (repeat (first | exact Ext.refl _ | apply Ext.drewN | apply Ext.drew | apply Ext.alloc | (refine Ext.set ?_ (by first | (simp; done) | (simp; omega) | omega) _) | (refine Ext.trans ?_ (by assumption)))))⟩
  cases hb : btw t 0 60
  · rw [show tcd true false true = 2 from rfl]
    go_enter Try.func35, Try.ntmps35
    go_wp2_with (first | (go_at_call 67; (with_reducible refine (l02Ok_is _ _ _ xs _ hv _ (hI.ext (by with_reducible (repeat (first | exact Ext.refl _ | apply Ext.drewN | apply Ext.drew | apply Ext.alloc | (refine Ext.set ?_ (by first | (simp; done) | (simp; omega) | omega) _) | (refine Ext.trans ?_ (by assumption))))))).mono ?_); rintro e w' ⟨rfl, n, rfl⟩) | (go_at_call 44; (with_reducible refine (l00In_is _ _ _ _ hb _).mono ?_); rintro e w' ⟨rfl, rfl⟩))
    go_ret
    exact ⟨rfl, (by with_reducible (repeat (first | exact Ext.refl _ | apply Ext.drewN | apply Ext.drew | apply Ext.alloc | (refine Ext.set ?_ (by first | (simp; done) | (simp; omega) | omega) _) | (refine Ext.trans ?_ (by assumption)))))⟩
  · rw [show tcd true true true = 0 from rfl]
    go_enter Try.func35, Try.ntmps35
    go_wp2_with (first | (go_at_call 67; (with_reducible refine (l02Ok_is _ _ _ xs _ hv _ (hI.ext (by with_reducible (repeat (first | exact Ext.refl _ | apply Ext.drewN | apply Ext.drew | apply Ext.alloc | (refine Ext.set ?_ (by first | (simp; done) | (simp; omega) | omega) _) | (refine Ext.trans ?_ (by assumption))))))).mono ?_); rintro e w' ⟨rfl, n, rfl⟩) | (go_at_call 44; (with_reducible refine (l00In_is _ _ _ _ hb _).mono ?_); rintro e w' ⟨rfl, rfl⟩))
    go_ret
    exact ⟨rfl, (by with_reducible (repeat (first | exact Ext.refl _ | apply Ext.drewN | apply Ext.drew | apply Ext.alloc | (refine Ext.set ?_ (by first | (simp; done) | (simp; omega) | omega) _) | (refine Ext.trans ?_ (by assumption)))))⟩
theorem rowsCode_is (A : Option Addr) (n c : Nat) (xs : List Int) (t : Int) (w : World) (hI : Ints w A n xs) (r : Int) (hr : Hid (rcd xs t = r)) :
    Calls Try.prog 33 #[.slice A n c, .int .i64 t] w fun e w' => e = .returned (.int .i64 r) ∧ Ext w w' := by
  rw [← hr.out]
  clear hr
  unfold rcd
  cases hv : vpat xs
  · rw [show tcd false (btw t 0 60) true = 1 from rfl]
    go_enter Try.func33, Try.ntmps33
    go_wp2_with (first | (go_at_call 51; (with_reducible refine (ValidPattern_is _ _ _ xs _ hv _ (hI.ext (by with_reducible (repeat (first | exact Ext.refl _ | apply Ext.drewN | apply Ext.drew | apply Ext.alloc | (refine Ext.set ?_ (by first | (simp; done) | (simp; omega) | omega) _) | (refine Ext.trans ?_ (by assumption))))))).mono ?_); rintro e w1 ⟨rfl, hx⟩; have hz := hx.size; (try simp at hz); (try (have hq0 : w.heap.size < w1.heap.size := by omega)); (try (have hc0 : ∀ o, w1.cell? ⟨w.heap.size, o, none⟩ = _ := fun o => hx.cells.1 _ o (by first | (simp; done) | (simp; omega) | omega))); (try (have hf0 : ∀ o, w1.frozen? ⟨w.heap.size, o, none⟩ = _ := fun o => hx.cells.2 _ o (by first | (simp; done) | (simp; omega) | omega))); (try (have hq1 : w.heap.size + 1 < w1.heap.size := by omega)); (try (have hc1 : ∀ o, w1.cell? ⟨w.heap.size + 1, o, none⟩ = _ := fun o => hx.cells.1 _ o (by first | (simp; done) | (simp; omega) | omega))); (try (have hf1 : ∀ o, w1.frozen? ⟨w.heap.size + 1, o, none⟩ = _ := fun o => hx.cells.2 _ o (by first | (simp; done) | (simp; omega) | omega))); (try (have hq2 : w.heap.size + 2 < w1.heap.size := by omega)); (try (have hc2 : ∀ o, w1.cell? ⟨w.heap.size + 2, o, none⟩ = _ := fun o => hx.cells.1 _ o (by first | (simp; done) | (simp; omega) | omega))); (try (have hf2 : ∀ o, w1.frozen? ⟨w.heap.size + 2, o, none⟩ = _ := fun o => hx.cells.2 _ o (by first | (simp; done) | (simp; omega) | omega)))))
    go_ret
    exact ⟨rfl, (by with_reducible (repeat (first | exact Ext.refl _ | apply Ext.drewN | apply Ext.drew | apply Ext.alloc | (refine Ext.set ?_ (by first | (simp; done) | (simp; omega) | omega) _) | (refine Ext.trans ?_ (by assumption)))))⟩
  cases hb : btw t 0 60
  · rw [show tcd true false true = 2 from rfl]
    go_enter Try.func33, Try.ntmps33
    go_wp2_with (first | (go_at_call 51; (with_reducible refine (ValidPattern_is _ _ _ xs _ hv _ (hI.ext (by with_reducible (repeat (first | exact Ext.refl _ | apply Ext.drewN | apply Ext.drew | apply Ext.alloc | (refine Ext.set ?_ (by first | (simp; done) | (simp; omega) | omega) _) | (refine Ext.trans ?_ (by assumption))))))).mono ?_); rintro e w1 ⟨rfl, hx⟩; have hz := hx.size; (try simp at hz); (try (have hq0 : w.heap.size < w1.heap.size := by omega)); (try (have hc0 : ∀ o, w1.cell? ⟨w.heap.size, o, none⟩ = _ := fun o => hx.cells.1 _ o (by first | (simp; done) | (simp; omega) | omega))); (try (have hf0 : ∀ o, w1.frozen? ⟨w.heap.size, o, none⟩ = _ := fun o => hx.cells.2 _ o (by first | (simp; done) | (simp; omega) | omega))); (try (have hq1 : w.heap.size + 1 < w1.heap.size := by omega)); (try (have hc1 : ∀ o, w1.cell? ⟨w.heap.size + 1, o, none⟩ = _ := fun o => hx.cells.1 _ o (by first | (simp; done) | (simp; omega) | omega))); (try (have hf1 : ∀ o, w1.frozen? ⟨w.heap.size + 1, o, none⟩ = _ := fun o => hx.cells.2 _ o (by first | (simp; done) | (simp; omega) | omega))); (try (have hq2 : w.heap.size + 2 < w1.heap.size := by omega)); (try (have hc2 : ∀ o, w1.cell? ⟨w.heap.size + 2, o, none⟩ = _ := fun o => hx.cells.1 _ o (by first | (simp; done) | (simp; omega) | omega))); (try (have hf2 : ∀ o, w1.frozen? ⟨w.heap.size + 2, o, none⟩ = _ := fun o => hx.cells.2 _ o (by first | (simp; done) | (simp; omega) | omega)))) | (go_at_call 47; (with_reducible refine (between_is _ _ _ _ hb _).mono ?_); rintro e w' ⟨rfl, rfl⟩))
    go_ret
    exact ⟨rfl, (by with_reducible (repeat (first | exact Ext.refl _ | apply Ext.drewN | apply Ext.drew | apply Ext.alloc | (refine Ext.set ?_ (by first | (simp; done) | (simp; omega) | omega) _) | (refine Ext.trans ?_ (by assumption)))))⟩
  · rw [show tcd true true true = 0 from rfl]
    go_enter Try.func33, Try.ntmps33
    go_wp2_with (first | (go_at_call 51; (with_reducible refine (ValidPattern_is _ _ _ xs _ hv _ (hI.ext (by with_reducible (repeat (first | exact Ext.refl _ | apply Ext.drewN | apply Ext.drew | apply Ext.alloc | (refine Ext.set ?_ (by first | (simp; done) | (simp; omega) | omega) _) | (refine Ext.trans ?_ (by assumption))))))).mono ?_); rintro e w1 ⟨rfl, hx⟩; have hz := hx.size; (try simp at hz); (try (have hq0 : w.heap.size < w1.heap.size := by omega)); (try (have hc0 : ∀ o, w1.cell? ⟨w.heap.size, o, none⟩ = _ := fun o => hx.cells.1 _ o (by first | (simp; done) | (simp; omega) | omega))); (try (have hf0 : ∀ o, w1.frozen? ⟨w.heap.size, o, none⟩ = _ := fun o => hx.cells.2 _ o (by first | (simp; done) | (simp; omega) | omega))); (try (have hq1 : w.heap.size + 1 < w1.heap.size := by omega)); (try (have hc1 : ∀ o, w1.cell? ⟨w.heap.size + 1, o, none⟩ = _ := fun o => hx.cells.1 _ o (by first | (simp; done) | (simp; omega) | omega))); (try (have hf1 : ∀ o, w1.frozen? ⟨w.heap.size + 1, o, none⟩ = _ := fun o => hx.cells.2 _ o (by first | (simp; done) | (simp; omega) | omega))); (try (have hq2 : w.heap.size + 2 < w1.heap.size := by omega)); (try (have hc2 : ∀ o, w1.cell? ⟨w.heap.size + 2, o, none⟩ = _ := fun o => hx.cells.1 _ o (by first | (simp; done) | (simp; omega) | omega))); (try (have hf2 : ∀ o, w1.frozen? ⟨w.heap.size + 2, o, none⟩ = _ := fun o => hx.cells.2 _ o (by first | (simp; done) | (simp; omega) | omega)))) | (go_at_call 47; (with_reducible refine (between_is _ _ _ _ hb _).mono ?_); rintro e w' ⟨rfl, rfl⟩))
    go_ret
    exact ⟨rfl, (by with_reducible (repeat (first | exact Ext.refl _ | apply Ext.drewN | apply Ext.drew | apply Ext.alloc | (refine Ext.set ?_ (by first | (simp; done) | (simp; omega) | omega) _) | (refine Ext.trans ?_ (by assumption)))))⟩
/-- What ThrownProps gives. -/
def thps (xs : List Int) (t : Int) : List Int := if rcd xs t = 0 then (pls (thAt xs) t.toNat).1 else []
def thpn (xs : List Int) (t : Int) : Nat := if rcd xs t = 0 then t.toNat else 0
theorem thps_bd (xs : List Int) (t : Int) : thpn xs t ≤ 1048576 ∧ ∀ y ∈ thps xs t, -9223372036854775808 ≤ y ∧ y ≤ 9223372036854775807 := by
  unfold thpn thps
  split
  · rename_i hr
    obtain ⟨hv, ht⟩ := rcd_zero hr
    exact ⟨by omega, fun y hy => by have := pls_rng (thAt_endless hv) _ y hy; omega⟩
  · exact ⟨by omega, by simp⟩
theorem specThrownProps_ret (A : Option Addr) (n c : Nat) (xs : List Int) (t : Int) (w : World) (hI : Ints w A n xs) :
    Calls Try.prog 8 #[.slice A n c, .int .i64 t] w (RetRow w 2 1 (thpn xs t) (thps xs t) (rcd xs t)) := by
  unfold thpn thps
  by_cases hr : rcd xs t = 0
  · rw [if_pos hr, if_pos hr, hr]
    obtain ⟨hv, ht⟩ := rcd_zero hr
    obtain ⟨k, rfl⟩ : ∃ k : Nat, t = k := ⟨t.toNat, by omega⟩
    rw [Int.toNat_natCast]
    have HC := Lib.hid hr
    have HV := Lib.hid hv
    clear hr hv
    go_enter Try.func8, Try.ntmps8
    go_wp2_with (first | (go_at_call 35; (with_reducible refine (l18Code_is _ _ _ xs _ _ (hI.ext (by with_reducible (repeat (first | exact Ext.refl _ | apply Ext.drewN | apply Ext.drew | apply Ext.alloc | (refine Ext.set ?_ (by first | (simp; done) | (simp; omega) | omega) _) | (refine Ext.trans ?_ (by assumption)))))) 0 HC).mono ?_); rintro e w1 ⟨rfl, hx⟩; have hz := hx.size; (try simp at hz); (try (have hq0 : w.heap.size < w1.heap.size := by omega)); (try (have hc0 : ∀ o, w1.cell? ⟨w.heap.size, o, none⟩ = _ := fun o => hx.cells.1 _ o (by first | (simp; done) | (simp; omega) | omega))); (try (have hf0 : ∀ o, w1.frozen? ⟨w.heap.size, o, none⟩ = _ := fun o => hx.cells.2 _ o (by first | (simp; done) | (simp; omega) | omega))); (try (have hq1 : w.heap.size + 1 < w1.heap.size := by omega)); (try (have hc1 : ∀ o, w1.cell? ⟨w.heap.size + 1, o, none⟩ = _ := fun o => hx.cells.1 _ o (by first | (simp; done) | (simp; omega) | omega))); (try (have hf1 : ∀ o, w1.frozen? ⟨w.heap.size + 1, o, none⟩ = _ := fun o => hx.cells.2 _ o (by first | (simp; done) | (simp; omega) | omega))); (try (have hq2 : w.heap.size + 2 < w1.heap.size := by omega)); (try (have hc2 : ∀ o, w1.cell? ⟨w.heap.size + 2, o, none⟩ = _ := fun o => hx.cells.1 _ o (by first | (simp; done) | (simp; omega) | omega))); (try (have hf2 : ∀ o, w1.frozen? ⟨w.heap.size + 2, o, none⟩ = _ := fun o => hx.cells.2 _ o (by first | (simp; done) | (simp; omega) | omega)))) | (go_at_call 36; (with_reducible refine (l18Props_any _ _ _ xs k _ (hI.ext (by with_reducible (repeat (first | exact Ext.refl _ | apply Ext.drewN | apply Ext.drew | apply Ext.alloc | (refine Ext.set ?_ (by first | (simp; done) | (simp; omega) | omega) _) | (refine Ext.trans ?_ (by assumption)))))) HV.out (by omega)).mono ?_); rintro e w2 ⟨A1, c1, rfl, ho⟩))
    go_ret2
    exact RetRow.of_ownR rfl (ho.rebase (by with_reducible (repeat (first | exact Ext.refl _ | apply Ext.drewN | apply Ext.drew | apply Ext.alloc | (refine Ext.set ?_ (by first | (simp; done) | (simp; omega) | omega) _) | (refine Ext.trans ?_ (by assumption))))))
  · rw [if_neg hr, if_neg hr]
    have h0 : (rcd xs t != 0) = true := by simpa using hr
    obtain ⟨r, hr⟩ : ∃ r, rcd xs t = r := ⟨_, rfl⟩
    rw [hr] at h0 ⊢
    have HC := Lib.hid hr
    clear hr
    go_enter Try.func8, Try.ntmps8
    go_wp2_with (first | (go_at_call 35; (with_reducible refine (l18Code_is _ _ _ xs _ _ (hI.ext (by with_reducible (repeat (first | exact Ext.refl _ | apply Ext.drewN | apply Ext.drew | apply Ext.alloc | (refine Ext.set ?_ (by first | (simp; done) | (simp; omega) | omega) _) | (refine Ext.trans ?_ (by assumption)))))) r HC).mono ?_); rintro e w1 ⟨rfl, hx⟩; have hz := hx.size; (try simp at hz); (try (have hq0 : w.heap.size < w1.heap.size := by omega)); (try (have hc0 : ∀ o, w1.cell? ⟨w.heap.size, o, none⟩ = _ := fun o => hx.cells.1 _ o (by first | (simp; done) | (simp; omega) | omega))); (try (have hf0 : ∀ o, w1.frozen? ⟨w.heap.size, o, none⟩ = _ := fun o => hx.cells.2 _ o (by first | (simp; done) | (simp; omega) | omega))); (try (have hq1 : w.heap.size + 1 < w1.heap.size := by omega)); (try (have hc1 : ∀ o, w1.cell? ⟨w.heap.size + 1, o, none⟩ = _ := fun o => hx.cells.1 _ o (by first | (simp; done) | (simp; omega) | omega))); (try (have hf1 : ∀ o, w1.frozen? ⟨w.heap.size + 1, o, none⟩ = _ := fun o => hx.cells.2 _ o (by first | (simp; done) | (simp; omega) | omega))); (try (have hq2 : w.heap.size + 2 < w1.heap.size := by omega)); (try (have hc2 : ∀ o, w1.cell? ⟨w.heap.size + 2, o, none⟩ = _ := fun o => hx.cells.1 _ o (by first | (simp; done) | (simp; omega) | omega))); (try (have hf2 : ∀ o, w1.frozen? ⟨w.heap.size + 2, o, none⟩ = _ := fun o => hx.cells.2 _ o (by first | (simp; done) | (simp; omega) | omega)))))
    go_ret2
    exact RetRow.of_nil rfl (by with_reducible (repeat (first | exact Ext.refl _ | apply Ext.drewN | apply Ext.drew | apply Ext.alloc | (refine Ext.set ?_ (by first | (simp; done) | (simp; omega) | omega) _) | (refine Ext.trans ?_ (by assumption)))))
theorem implThrownProps_ret (A : Option Addr) (n c : Nat) (xs : List Int) (t : Int) (w : World) (hI : Ints w A n xs) :
    Calls Try.prog 7 #[.slice A n c, .int .i64 t] w (RetRow w 2 1 (thpn xs t) (thps xs t) (rcd xs t)) := by
  unfold thpn thps
  by_cases hr : rcd xs t = 0
  · rw [if_pos hr, if_pos hr, hr]
    obtain ⟨hv, ht⟩ := rcd_zero hr
    obtain ⟨k, rfl⟩ : ∃ k : Nat, t = k := ⟨t.toNat, by omega⟩
    rw [Int.toNat_natCast]
    have HC := Lib.hid hr
    have HV := Lib.hid hv
    clear hr hv
    go_enter Try.func7, Try.ntmps7
    go_wp2_with (first | (go_at_call 33; (with_reducible refine (rowsCode_is _ _ _ xs _ _ (hI.ext (by with_reducible (repeat (first | exact Ext.refl _ | apply Ext.drewN | apply Ext.drew | apply Ext.alloc | (refine Ext.set ?_ (by first | (simp; done) | (simp; omega) | omega) _) | (refine Ext.trans ?_ (by assumption)))))) 0 HC).mono ?_); rintro e w1 ⟨rfl, hx⟩; have hz := hx.size; (try simp at hz); (try (have hq0 : w.heap.size < w1.heap.size := by omega)); (try (have hc0 : ∀ o, w1.cell? ⟨w.heap.size, o, none⟩ = _ := fun o => hx.cells.1 _ o (by first | (simp; done) | (simp; omega) | omega))); (try (have hf0 : ∀ o, w1.frozen? ⟨w.heap.size, o, none⟩ = _ := fun o => hx.cells.2 _ o (by first | (simp; done) | (simp; omega) | omega))); (try (have hq1 : w.heap.size + 1 < w1.heap.size := by omega)); (try (have hc1 : ∀ o, w1.cell? ⟨w.heap.size + 1, o, none⟩ = _ := fun o => hx.cells.1 _ o (by first | (simp; done) | (simp; omega) | omega))); (try (have hf1 : ∀ o, w1.frozen? ⟨w.heap.size + 1, o, none⟩ = _ := fun o => hx.cells.2 _ o (by first | (simp; done) | (simp; omega) | omega))); (try (have hq2 : w.heap.size + 2 < w1.heap.size := by omega)); (try (have hc2 : ∀ o, w1.cell? ⟨w.heap.size + 2, o, none⟩ = _ := fun o => hx.cells.1 _ o (by first | (simp; done) | (simp; omega) | omega))); (try (have hf2 : ∀ o, w1.frozen? ⟨w.heap.size + 2, o, none⟩ = _ := fun o => hx.cells.2 _ o (by first | (simp; done) | (simp; omega) | omega)))) | (go_at_call 34; (with_reducible refine (propsAt_any _ _ _ xs k _ (hI.ext (by with_reducible (repeat (first | exact Ext.refl _ | apply Ext.drewN | apply Ext.drew | apply Ext.alloc | (refine Ext.set ?_ (by first | (simp; done) | (simp; omega) | omega) _) | (refine Ext.trans ?_ (by assumption)))))) HV.out (by omega)).mono ?_); rintro e w2 ⟨A1, c1, rfl, ho⟩))
    go_ret2
    exact RetRow.of_ownR rfl (ho.rebase (by with_reducible (repeat (first | exact Ext.refl _ | apply Ext.drewN | apply Ext.drew | apply Ext.alloc | (refine Ext.set ?_ (by first | (simp; done) | (simp; omega) | omega) _) | (refine Ext.trans ?_ (by assumption))))))
  · rw [if_neg hr, if_neg hr]
    have h0 : (rcd xs t != 0) = true := by simpa using hr
    obtain ⟨r, hr⟩ : ∃ r, rcd xs t = r := ⟨_, rfl⟩
    rw [hr] at h0 ⊢
    have HC := Lib.hid hr
    clear hr
    go_enter Try.func7, Try.ntmps7
    go_wp2_with (first | (go_at_call 33; (with_reducible refine (rowsCode_is _ _ _ xs _ _ (hI.ext (by with_reducible (repeat (first | exact Ext.refl _ | apply Ext.drewN | apply Ext.drew | apply Ext.alloc | (refine Ext.set ?_ (by first | (simp; done) | (simp; omega) | omega) _) | (refine Ext.trans ?_ (by assumption)))))) r HC).mono ?_); rintro e w1 ⟨rfl, hx⟩; have hz := hx.size; (try simp at hz); (try (have hq0 : w.heap.size < w1.heap.size := by omega)); (try (have hc0 : ∀ o, w1.cell? ⟨w.heap.size, o, none⟩ = _ := fun o => hx.cells.1 _ o (by first | (simp; done) | (simp; omega) | omega))); (try (have hf0 : ∀ o, w1.frozen? ⟨w.heap.size, o, none⟩ = _ := fun o => hx.cells.2 _ o (by first | (simp; done) | (simp; omega) | omega))); (try (have hq1 : w.heap.size + 1 < w1.heap.size := by omega)); (try (have hc1 : ∀ o, w1.cell? ⟨w.heap.size + 1, o, none⟩ = _ := fun o => hx.cells.1 _ o (by first | (simp; done) | (simp; omega) | omega))); (try (have hf1 : ∀ o, w1.frozen? ⟨w.heap.size + 1, o, none⟩ = _ := fun o => hx.cells.2 _ o (by first | (simp; done) | (simp; omega) | omega))); (try (have hq2 : w.heap.size + 2 < w1.heap.size := by omega)); (try (have hc2 : ∀ o, w1.cell? ⟨w.heap.size + 2, o, none⟩ = _ := fun o => hx.cells.1 _ o (by first | (simp; done) | (simp; omega) | omega))); (try (have hf2 : ∀ o, w1.frozen? ⟨w.heap.size + 2, o, none⟩ = _ := fun o => hx.cells.2 _ o (by first | (simp; done) | (simp; omega) | omega)))))
    go_ret2
    exact RetRow.of_nil rfl (by with_reducible (repeat (first | exact Ext.refl _ | apply Ext.drewN | apply Ext.drew | apply Ext.alloc | (refine Ext.set ?_ (by first | (simp; done) | (simp; omega) | omega) _) | (refine Ext.trans ?_ (by assumption)))))
end Go.Proofs.Ytendemigegjbfaa
