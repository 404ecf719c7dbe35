/- How often each hand throws: contracts of LoadsOf. No condition but the stated bounds. -/
import Derived.Test.YtdmjmnkcnohhlaaHth
namespace Go.Proofs.Ytdmjmnkcnohhlaa
set_option linter.unusedVariables false
set_option linter.unusedSimpArgs false
open Go.RowKit

theorem hig_ge (os : List Int) {k i : Nat} (hi : i < k) : os[i]?.getD 0 ≤ hig os k := by
  unfold hig
  induction k with
  | zero => omega
  | succ k ih =>
    simp only [fold]
    by_cases e : i = k
    · subst e
      by_cases h : fold cmf 0 os i < os[i]?.getD 0
      · rw [cmf_pos h]; omega
      · rw [cmf_neg h]; omega
    · have := ih (by omega)
      by_cases h : fold cmf 0 os k < os[k]?.getD 0
      · rw [cmf_pos h]; omega
      · rw [cmf_neg h]; omega
theorem ord_lt {os : List Int} (h : vhd os = true) (z : Int) : 0 ≤ thAt os z ∧ thAt os z < hct os := by
  obtain ⟨h1, h2, _⟩ := vhd_iff h
  have e1 := Int.emod_nonneg z (show (os.length : Int) ≠ 0 by omega)
  have e2 := Int.emod_lt_of_pos z (show 0 < (os.length : Int) by omega)
  have h3 := hig_ge os (k := os.length) (i := (z % (os.length : Int)).toNat) (by omega)
  have h4 := ord_bd h z
  unfold hct
  unfold thAt at h4 ⊢
  omega
theorem getD_append_left {xs ys : List Int} {i : Nat} (h : i < xs.length) : (xs ++ ys)[i]?.getD 0 = xs[i]?.getD 0 := by rw [List.getElem?_append_left h]
theorem getD_append_right {xs ys : List Int} {i j : Nat} (h : i = xs.length + j) : (xs ++ ys)[i]?.getD 0 = ys[j]?.getD 0 := by
  rw [List.getElem?_append_right (by omega), show i - xs.length = j by omega]
/-- What the throw i is. -/
theorem htr_at (ps os : List Int) {k i : Nat} (hi : i < tcn ps k) : ∃ z : Nat, z < k ∧ 0 < thAt ps z ∧ (htr ps os k)[i * 4]?.getD 0 = z ∧ (htr ps os k)[i * 4 + 1]?.getD 0 = thAt ps z ∧ (htr ps os k)[i * 4 + 2]?.getD 0 = thAt os z ∧ (htr ps os k)[i * 4 + 3]?.getD 0 = thAt os ((z : Int) + thAt ps z) := by
  induction k with
  | zero => simp [tcn] at hi
  | succ k ih =>
    by_cases h0 : 0 < thAt ps k
    · obtain ⟨hs, hn⟩ := htr_yes (os := os) h0
      rw [hn] at hi
      have hl := htr_len ps os k
      rw [hs]
      by_cases e : i = tcn ps k
      · subst e
        refine ⟨k, by omega, h0, ?_, ?_, ?_, ?_⟩
        · rw [getD_append_right (j := 0) (by omega)]; rfl
        · rw [getD_append_right (j := 1) (by omega)]; rfl
        · rw [getD_append_right (j := 2) (by omega)]; rfl
        · rw [getD_append_right (j := 3) (by omega)]; rfl
      · obtain ⟨z, hz, h1, h2, h3, h4, h5⟩ := ih (by omega)
        refine ⟨z, by omega, h1, ?_, ?_, ?_, ?_⟩
        · rw [getD_append_left (by omega)]; exact h2
        · rw [getD_append_left (by omega)]; exact h3
        · rw [getD_append_left (by omega)]; exact h4
        · rw [getD_append_left (by omega)]; exact h5
    · obtain ⟨hs, hn⟩ := htr_no (os := os) h0
      rw [hn] at hi
      rw [hs]
      obtain ⟨z, hz, h⟩ := ih hi
      exact ⟨z, by omega, h⟩
/-- How many of the first k throws the hand h makes. -/
def ldc (ys : List Int) : Nat → Int → Int
  | 0, _ => 0
  | k + 1, h => ldc ys k h + if ys[k * 4 + 2]?.getD 0 = h then 1 else 0
theorem ldc_bd (ys : List Int) (k : Nat) (h : Int) : 0 ≤ ldc ys k h ∧ ldc ys k h ≤ k := by
  induction k with
  | zero => simp [ldc]
  | succ k ih => simp only [ldc]; split <;> omega
def ldl (ys : List Int) (k H : Nat) : List Int := (List.range H).map (fun h : Nat => ldc ys k h)
theorem ldl_of {ys sl : List Int} {k H : Nat} (hl : sl.length = H) (h : ∀ i, i < H → sl[i]?.getD 0 = ldc ys k i) : sl = ldl ys k H := by
  apply List.ext_getElem
  · simp [ldl, hl]
  · intro i h1 h2
    have := h i (by omega)
    rw [List.getElem?_eq_getElem h1] at this
    simp [ldl]
    simpa using this
/-- How far the loads have come. -/
structure Loads (w1 wr : World) (A1 : Option Addr) (N c1 : Nat) (ys : List Int) (H hi k : Nat) : Prop where
  out : ∃ sl, Row wr w1.heap.size (w1.heap.size + 1) 2 1 (some ⟨w1.heap.size, 0, none⟩) H H sl ∧ ∀ h, h < H → sl[h]?.getD 0 = ldc ys k h
  list : Row wr (w1.heap.size + 1) hi 38 4 A1 N c1 ys
  ext : Ext w1 wr
  big : w1.heap.size + 1 ≤ wr.heap.size
section
variable {w1 wr wr' : World} {A1 : Option Addr} {N c1 : Nat} {ys : List Int} {H hi k : Nat}
theorem Loads.extend (s : Loads w1 wr A1 N c1 ys H hi k) (x : Ext wr wr') : Loads w1 wr' A1 N c1 ys H hi k := by
  obtain ⟨⟨sl, h1, h2⟩, h3, h4, h5⟩ := s
  exact ⟨⟨sl, h1.ext x, h2⟩, h3.ext x, h4.trans x, Nat.le_trans h5 x.size⟩
theorem Loads.cell (s : Loads w1 wr A1 N c1 ys H hi k) {f : Nat} (hf : f < H) : wr.cell? ⟨w1.heap.size, f, none⟩ = some (.int .i64 (ldc ys k f)) ∧ wr.frozen? ⟨w1.heap.size, f, none⟩ = false := by
  obtain ⟨⟨sl, h1, h2⟩, _⟩ := s
  have := h1.cellAt (p := f) (by omega)
  rw [h2 f hf] at this
  exact this
theorem Loads.put (s : Loads w1 wr A1 N c1 ys H hi k) {f : Nat} (hy : ys[k * 4 + 2]?.getD 0 = (f : Int)) (hf : f < H) : Loads w1 (wr.setCell ⟨w1.heap.size, f, none⟩ (.int .i64 (ldc ys k f + 1))) A1 N c1 ys H hi (k + 1) := by
  obtain ⟨⟨sl, h1, h2⟩, h3, h4, h5⟩ := s
  refine ⟨⟨sl.set f (ldc ys k f + 1), h1.store f _, fun h hh => ?_⟩, h3.apart (only_setCell (World.grownBy.refl wr (some w1.heap.size)) (p := ⟨w1.heap.size, f, none⟩) rfl _) (fun g hg => by cases hg; omega), h4.set (Nat.le_refl _) _, by simpa [World.setCell] using h5⟩
  have hl := h1.len
  simp only [ldc]
  rw [hy]
  by_cases e : h = f
  · subst e
    rw [List.getElem?_set_self (by omega), if_pos rfl]
    rfl
  · rw [List.getElem?_set_ne (Ne.symm e), if_neg (by omega), h2 h hh]
    omega
theorem Loads.done {w : World} (s : Loads w1 wr A1 N c1 ys H hi k) (hx : Ext w w1) : RetRow w 2 1 H (ldl ys k H) 0 (.returned (.tuple #[.slice (some ⟨w1.heap.size, 0, none⟩) H H, .int .i64 0])) wr := by
  obtain ⟨⟨sl, h1, h2⟩, h3, h4, h5⟩ := s
  have e : sl = ldl ys k H := ldl_of (by have := h1.len; omega) h2
  subst e
  refine ⟨_, _, rfl, ⟨(h1.lower hx.size).own, fun a ha => by cases ha; simp; omega⟩, hx.trans h4⟩
theorem loads_zero {w1 w2 : World} {A1 : Option Addr} {N c1 : Nat} {ys : List Int} {H : Nat} (hH : H ≤ 100) (ho : OwnR 38 4 (w1.alloc (.cells (madeCells #[.int .i64 0] H) 2)) w2 (.slice A1 N c1) N ys) : Loads w1 w2 A1 N c1 ys H w2.heap.size 0 := by
  have hx := ho.ext
  have h0 : Row (w1.alloc (.cells (madeCells #[.int .i64 0] H) 2)) w1.heap.size (w1.heap.size + 1) 2 1 (some ⟨w1.heap.size, 0, none⟩) H H (List.replicate H 0) := by
    refine ⟨⟨by simp, .inr ⟨w1.heap.size, H, madeCells #[.int .i64 0] H, rfl, Nat.le_refl _, heap_alloc_new _ _, Nat.le_refl _, by unfold maxLen; omega, by simp [size_madeCells], ?_⟩⟩, fun a ha => by cases ha; simp⟩
    rw [toList_madeCells_one, List.map_replicate]
    simp
  refine ⟨⟨_, h0.ext hx, fun h hh => by simp [hh, ldc]⟩, ?_, ((Ext.refl w1).alloc _).trans hx, ?_⟩
  · have := ho.row
    simpa using this
  · have := hx.size
    simpa using this
end
/-- What LoadsOf gives. -/
def ldv (ps os : List Int) : List Int := if hcd ps os = 0 then ldl (htr ps os (cmp_ ps.length os.length)) (tcn ps (cmp_ ps.length os.length)) (hct os).toNat else []
def ldn (ps os : List Int) : Nat := if hcd ps os = 0 then (hct os).toNat else 0
theorem hct_bd {os : List Int} (h : vhd os = true) : 1 ≤ hct os ∧ hct os ≤ 4 := by
  have := hig_bd3 (vhd_iff h).2.1
  unfold hct
  omega
theorem ldv_bd (ps os : List Int) : ldn ps os ≤ 1048576 ∧ ∀ y ∈ ldv ps os, -9223372036854775808 ≤ y ∧ y ≤ 9223372036854775807 := by
  unfold ldn ldv
  split
  · rename_i hr
    obtain ⟨hv, ho⟩ := hcd_zero hr
    have hc := cmp_bd (thr_iff.1 (vpat_thr hv)).2 (vhd_iff ho).1
    have := tcn_le ps (cmp_ ps.length os.length)
    have := hct_bd ho
    refine ⟨by omega, fun y hy => ?_⟩
    simp only [ldl, List.mem_map, List.mem_range] at hy
    obtain ⟨h, hh, rfl⟩ := hy
    have := ldc_bd (htr ps os (cmp_ ps.length os.length)) (tcn ps (cmp_ ps.length os.length)) h
    omega
  · exact ⟨by omega, by simp⟩
set_option maxHeartbeats 2000000 in
theorem specLoadsOf_yes (A : Option Addr) (n c : Nat) (ps : List Int) (B : Option Addr) (m d : Nat) (os : List Int) (w : World) (hI : Ints w A n ps) (hJ : Ints w B m os) (hr : hcd ps os = 0) :
    Calls Try.prog 8 #[.slice A n c, .slice B m d] w (RetRow w 2 1 (hct os).toNat (ldl (htr ps os (cmp_ n m)) (tcn ps (cmp_ n m)) (hct os).toNat) 0) := by
  obtain ⟨hv, ho⟩ := hcd_zero hr
  have hcb := cmp_bd (thr_iff.1 (vpat_thr hv)).2 (vhd_iff ho).1
  have hom := (vhd_iff ho).1
  rw [hJ.len] at hom
  rw [hI.len, hJ.len] at hcb
  have hHb := hct_bd ho
  obtain ⟨H, hH⟩ : ∃ H : Nat, hct os = H := ⟨(hct os).toNat, by omega⟩
  have HF0 : Hid (∀ k, k < tcn ps (cmp_ n m) → ∃ f : Nat, (htr ps os (cmp_ n m))[k * 4 + 2]?.getD 0 = f ∧ f < H) := fun k hk => by
    obtain ⟨z, _, _, _, _, h4, _⟩ := htr_at ps os hk
    have := ord_lt ho z
    exact ⟨(thAt os z).toNat, by omega, by omega⟩
  rw [show (hct os).toNat = H by omega]
  have HOB := Lib.hid (vhd_iff ho).2.1
  rw [hJ.len] at HOB
  have HH := Lib.hid hH
  have HC := Lib.hid hr
  have HV := Lib.hid hv
  have HO := Lib.hid ho
  have hBD := Lib.hid (htr_bd hv ho (cmp_ n m))
  have hN := tcn_le ps (cmp_ n m)
  have hH4 : 1 ≤ H ∧ H ≤ 4 := by omega
  clear hr hv ho hHb hH
  generalize hys : htr ps os (cmp_ n m) = ys at *
  generalize hNN : tcn ps (cmp_ n m) = N at *
  have HYS := Lib.hid hys
  have HNN := Lib.hid hNN
  clear hys hNN
  have hmk := fun W => run_make_row' (P := Try.prog) 24 2 (.int .i64 0) 8 Try.underlying24 infoInt rfl .i64 .i64 H (by omega) (by omega) W
  go_enter Try.func8, Try.ntmps8
  go_wp2_with (first | (go_at_call 31; (with_reducible refine (l14Code_is _ _ _ _ _ _ ps os _ (hI.ext (by with_reducible (repeat (first | exact Ext.refl _ | apply Ext.drewN | apply Ext.drew | apply Ext.alloc | (refine Ext.set ?_ (by first | (simp; done) | (simp; omega) | omega) _) | (refine Ext.trans ?_ (by assumption)))))) (hJ.ext (by with_reducible (repeat (first | exact Ext.refl _ | apply Ext.drewN | apply Ext.drew | apply Ext.alloc | (refine Ext.set ?_ (by first | (simp; done) | (simp; omega) | omega) _) | (refine Ext.trans ?_ (by assumption)))))) 0 HC).mono ?_); rintro e w1 ⟨rfl, hx⟩; have hz := hx.size; (try simp at hz); (try (have hq0 : w.heap.size < w1.heap.size := by omega)); (try (have hc0 : ∀ o, w1.cell? ⟨w.heap.size, o, none⟩ = _ := fun o => hx.cells.1 _ o (by first | (simp; done) | (simp; omega) | omega))); (try (have hf0 : ∀ o, w1.frozen? ⟨w.heap.size, o, none⟩ = _ := fun o => hx.cells.2 _ o (by first | (simp; done) | (simp; omega) | omega))); (try (have hq1 : w.heap.size + 1 < w1.heap.size := by omega)); (try (have hc1 : ∀ o, w1.cell? ⟨w.heap.size + 1, o, none⟩ = _ := fun o => hx.cells.1 _ o (by first | (simp; done) | (simp; omega) | omega))); (try (have hf1 : ∀ o, w1.frozen? ⟨w.heap.size + 1, o, none⟩ = _ := fun o => hx.cells.2 _ o (by first | (simp; done) | (simp; omega) | omega))); (try (have hq2 : w.heap.size + 2 < w1.heap.size := by omega)); (try (have hc2 : ∀ o, w1.cell? ⟨w.heap.size + 2, o, none⟩ = _ := fun o => hx.cells.1 _ o (by first | (simp; done) | (simp; omega) | omega))); (try (have hf2 : ∀ o, w1.frozen? ⟨w.heap.size + 2, o, none⟩ = _ := fun o => hx.cells.2 _ o (by first | (simp; done) | (simp; omega) | omega)))) | (go_at_call 32; (with_reducible refine (l14Count_any _ _ _ os _ (hJ.ext (by with_reducible (repeat (first | exact Ext.refl _ | apply Ext.drewN | apply Ext.drew | apply Ext.alloc | (refine Ext.set ?_ (by first | (simp; done) | (simp; omega) | omega) _) | (refine Ext.trans ?_ (by assumption)))))) HOB.out (by omega) (by omega)).mono ?_); rw [HH.out]; rintro e w' ⟨rfl, rfl⟩) | (go_at_call 33; (with_reducible refine (l14Throws_any _ _ n _ m _ ps os _ (hI.ext (by with_reducible (repeat (first | exact Ext.refl _ | apply Ext.drewN | apply Ext.drew | apply Ext.alloc | (refine Ext.set ?_ (by first | (simp; done) | (simp; omega) | omega) _) | (refine Ext.trans ?_ (by assumption)))))) (hJ.ext (by with_reducible (repeat (first | exact Ext.refl _ | apply Ext.drewN | apply Ext.drew | apply Ext.alloc | (refine Ext.set ?_ (by first | (simp; done) | (simp; omega) | omega) _) | (refine Ext.trans ?_ (by assumption)))))) HV.out HO.out).mono ?_); rw [HYS.out, HNN.out]; rintro e w2 ⟨A1, c1, rfl, ho⟩))
  clear hmk
  have hL0 := loads_zero (by omega) ho
  have hxw : Ext w w1 := (by with_reducible (repeat (first | exact Ext.refl _ | apply Ext.drewN | apply Ext.drew | apply Ext.alloc | (refine Ext.set ?_ (by first | (simp; done) | (simp; omega) | omega) _) | (refine Ext.trans ?_ (by assumption)))))
  go_loopw [9] (fun i wr => ∃ k : Nat, k ≤ N ∧ i = .int .i64 k ∧ Loads w1 wr A1 N c1 ys H w2.heap.size k) (fun i _ => N - (intOf i).toNat)
  case atStart => exact ⟨0, Nat.zero_le _, rfl, hL0⟩
  case round =>
    obtain ⟨k, hk, rfl, hs⟩ := hrel
    by_cases hlt : k < N
    · have hJ2 := hs.list.ints (by omega) (fun y hy => by have := hBD.out y hy; omega)
      have hxx := hs.ext
      have hbig := hs.big
      have hbg2 : w1.heap.size < wr.heap.size := by omega
      obtain ⟨b, off, hA, hb, hcell⟩ := hJ2.at_ (by omega)
      subst hA
      have ik : (k : Int) < N := by omega
      obtain ⟨f, hf, hfH⟩ := HF0.out k hlt
      have hc2 := hcell (k * 4 + 2) (by omega)
      (try rw [← Nat.add_assoc] at hc2)
      clear hcell
      rw [hf] at hc2
      have HF := Lib.hid hf
      clear hf
      have hfi : (f : Int) < H := by omega
      obtain ⟨hd1, hd2⟩ := hs.cell hfH
      have hdb := ldc_bd ys k f
      go_wp2
      go_roundw
      case rel => exact ⟨k + 1, by omega, by go_num, hs.put HF.out hfH⟩
      case measure => simp [intOf]; omega
    · obtain rfl : k = N := by omega
      have HT := Lib.hid (hs.done hxw)
      go_wp2
      go_ret2
      exact HT.out
theorem specLoadsOf_ret (A : Option Addr) (n c : Nat) (ps : List Int) (B : Option Addr) (m d : Nat) (os : List Int) (w : World) (hI : Ints w A n ps) (hJ : Ints w B m os) :
    Calls Try.prog 8 #[.slice A n c, .slice B m d] w (RetRow w 2 1 (ldn ps os) (ldv ps os) (hcd ps os)) := by
  unfold ldn ldv
  by_cases hr : hcd ps os = 0
  · rw [if_pos hr, if_pos hr, hr, hI.len, hJ.len]
    exact specLoadsOf_yes A n c ps B m d os w hI hJ hr
  · rw [if_neg hr, if_neg hr]
    have h0 : (hcd ps os != 0) = true := by simpa using hr
    obtain ⟨r, hr⟩ : ∃ r, hcd ps os = r := ⟨_, rfl⟩
    rw [hr] at h0 ⊢
    have HC := Lib.hid hr
    clear hr
    go_enter Try.func8, Try.ntmps8
    go_wp2_with (first | (go_at_call 31; (with_reducible refine (l14Code_is _ _ _ _ _ _ ps os _ (hI.ext (by with_reducible (repeat (first | exact Ext.refl _ | apply Ext.drewN | apply Ext.drew | apply Ext.alloc | (refine Ext.set ?_ (by first | (simp; done) | (simp; omega) | omega) _) | (refine Ext.trans ?_ (by assumption)))))) (hJ.ext (by with_reducible (repeat (first | exact Ext.refl _ | apply Ext.drewN | apply Ext.drew | apply Ext.alloc | (refine Ext.set ?_ (by first | (simp; done) | (simp; omega) | omega) _) | (refine Ext.trans ?_ (by assumption)))))) r HC).mono ?_); rintro e w1 ⟨rfl, hx⟩; have hz := hx.size; (try simp at hz); (try (have hq0 : w.heap.size < w1.heap.size := by omega)); (try (have hc0 : ∀ o, w1.cell? ⟨w.heap.size, o, none⟩ = _ := fun o => hx.cells.1 _ o (by first | (simp; done) | (simp; omega) | omega))); (try (have hf0 : ∀ o, w1.frozen? ⟨w.heap.size, o, none⟩ = _ := fun o => hx.cells.2 _ o (by first | (simp; done) | (simp; omega) | omega))); (try (have hq1 : w.heap.size + 1 < w1.heap.size := by omega)); (try (have hc1 : ∀ o, w1.cell? ⟨w.heap.size + 1, o, none⟩ = _ := fun o => hx.cells.1 _ o (by first | (simp; done) | (simp; omega) | omega))); (try (have hf1 : ∀ o, w1.frozen? ⟨w.heap.size + 1, o, none⟩ = _ := fun o => hx.cells.2 _ o (by first | (simp; done) | (simp; omega) | omega))); (try (have hq2 : w.heap.size + 2 < w1.heap.size := by omega)); (try (have hc2 : ∀ o, w1.cell? ⟨w.heap.size + 2, o, none⟩ = _ := fun o => hx.cells.1 _ o (by first | (simp; done) | (simp; omega) | omega))); (try (have hf2 : ∀ o, w1.frozen? ⟨w.heap.size + 2, o, none⟩ = _ := fun o => hx.cells.2 _ o (by first | (simp; done) | (simp; omega) | omega)))))
    go_ret2
    exact RetRow.of_nil rfl (by with_reducible (repeat (first | exact Ext.refl _ | apply Ext.drewN | apply Ext.drew | apply Ext.alloc | (refine Ext.set ?_ (by first | (simp; done) | (simp; omega) | omega) _) | (refine Ext.trans ?_ (by assumption)))))
set_option maxHeartbeats 2000000 in
theorem implLoadsOf_yes (A : Option Addr) (n c : Nat) (ps : List Int) (B : Option Addr) (m d : Nat) (os : List Int) (w : World) (hI : Ints w A n ps) (hJ : Ints w B m os) (hr : hcd ps os = 0) :
    Calls Try.prog 7 #[.slice A n c, .slice B m d] w (RetRow w 2 1 (hct os).toNat (ldl (htr ps os (cmp_ n m)) (tcn ps (cmp_ n m)) (hct os).toNat) 0) := by
  obtain ⟨hv, ho⟩ := hcd_zero hr
  have hcb := cmp_bd (thr_iff.1 (vpat_thr hv)).2 (vhd_iff ho).1
  have hom := (vhd_iff ho).1
  rw [hJ.len] at hom
  rw [hI.len, hJ.len] at hcb
  have hHb := hct_bd ho
  obtain ⟨H, hH⟩ : ∃ H : Nat, hct os = H := ⟨(hct os).toNat, by omega⟩
  have HF0 : Hid (∀ k, k < tcn ps (cmp_ n m) → ∃ f : Nat, (htr ps os (cmp_ n m))[k * 4 + 2]?.getD 0 = f ∧ f < H) := fun k hk => by
    obtain ⟨z, _, _, _, _, h4, _⟩ := htr_at ps os hk
    have := ord_lt ho z
    exact ⟨(thAt os z).toNat, by omega, by omega⟩
  rw [show (hct os).toNat = H by omega]
  have HOB := Lib.hid (vhd_iff ho).2.1
  rw [hJ.len] at HOB
  have HH := Lib.hid hH
  have HC := Lib.hid hr
  have HV := Lib.hid hv
  have HO := Lib.hid ho
  have hBD := Lib.hid (htr_bd hv ho (cmp_ n m))
  have hN := tcn_le ps (cmp_ n m)
  have hH4 : 1 ≤ H ∧ H ≤ 4 := by omega
  clear hr hv ho hHb hH
  generalize hys : htr ps os (cmp_ n m) = ys at *
  generalize hNN : tcn ps (cmp_ n m) = N at *
  have HYS := Lib.hid hys
  have HNN := Lib.hid hNN
  clear hys hNN
  have hmk := fun W => run_make_row' (P := Try.prog) 24 2 (.int .i64 0) 8 Try.underlying24 infoInt rfl .i64 .i64 H (by omega) (by omega) W
  go_enter Try.func7, Try.ntmps7
  go_wp2_with (first | (go_at_call 28; (with_reducible refine (areHanded_yes _ _ _ _ _ _ ps os _ (hI.ext (by with_reducible (repeat (first | exact Ext.refl _ | apply Ext.drewN | apply Ext.drew | apply Ext.alloc | (refine Ext.set ?_ (by first | (simp; done) | (simp; omega) | omega) _) | (refine Ext.trans ?_ (by assumption)))))) (hJ.ext (by with_reducible (repeat (first | exact Ext.refl _ | apply Ext.drewN | apply Ext.drew | apply Ext.alloc | (refine Ext.set ?_ (by first | (simp; done) | (simp; omega) | omega) _) | (refine Ext.trans ?_ (by assumption)))))) HC.out).mono ?_); rintro e w1 ⟨rfl, hx⟩; have hz := hx.size; (try simp at hz); (try (have hq0 : w.heap.size < w1.heap.size := by omega)); (try (have hc0 : ∀ o, w1.cell? ⟨w.heap.size, o, none⟩ = _ := fun o => hx.cells.1 _ o (by first | (simp; done) | (simp; omega) | omega))); (try (have hf0 : ∀ o, w1.frozen? ⟨w.heap.size, o, none⟩ = _ := fun o => hx.cells.2 _ o (by first | (simp; done) | (simp; omega) | omega))); (try (have hq1 : w.heap.size + 1 < w1.heap.size := by omega)); (try (have hc1 : ∀ o, w1.cell? ⟨w.heap.size + 1, o, none⟩ = _ := fun o => hx.cells.1 _ o (by first | (simp; done) | (simp; omega) | omega))); (try (have hf1 : ∀ o, w1.frozen? ⟨w.heap.size + 1, o, none⟩ = _ := fun o => hx.cells.2 _ o (by first | (simp; done) | (simp; omega) | omega))); (try (have hq2 : w.heap.size + 2 < w1.heap.size := by omega)); (try (have hc2 : ∀ o, w1.cell? ⟨w.heap.size + 2, o, none⟩ = _ := fun o => hx.cells.1 _ o (by first | (simp; done) | (simp; omega) | omega))); (try (have hf2 : ∀ o, w1.frozen? ⟨w.heap.size + 2, o, none⟩ = _ := fun o => hx.cells.2 _ o (by first | (simp; done) | (simp; omega) | omega)))) | (go_at_call 29; (with_reducible refine (handCount_any _ _ _ os _ (hJ.ext (by with_reducible (repeat (first | exact Ext.refl _ | apply Ext.drewN | apply Ext.drew | apply Ext.alloc | (refine Ext.set ?_ (by first | (simp; done) | (simp; omega) | omega) _) | (refine Ext.trans ?_ (by assumption)))))) HOB.out (by omega)).mono ?_); rw [HH.out]; rintro e w' ⟨rfl, rfl⟩) | (go_at_call 30; (with_reducible refine (handThrows_any _ _ n _ m _ ps os _ (hI.ext (by with_reducible (repeat (first | exact Ext.refl _ | apply Ext.drewN | apply Ext.drew | apply Ext.alloc | (refine Ext.set ?_ (by first | (simp; done) | (simp; omega) | omega) _) | (refine Ext.trans ?_ (by assumption)))))) (hJ.ext (by with_reducible (repeat (first | exact Ext.refl _ | apply Ext.drewN | apply Ext.drew | apply Ext.alloc | (refine Ext.set ?_ (by first | (simp; done) | (simp; omega) | omega) _) | (refine Ext.trans ?_ (by assumption)))))) HV.out HO.out).mono ?_); rw [HYS.out, HNN.out]; rintro e w2 ⟨A1, c1, rfl, ho⟩))
  clear hmk
  have hL0 := loads_zero (by omega) ho
  have hxw : Ext w w1 := (by with_reducible (repeat (first | exact Ext.refl _ | apply Ext.drewN | apply Ext.drew | apply Ext.alloc | (refine Ext.set ?_ (by first | (simp; done) | (simp; omega) | omega) _) | (refine Ext.trans ?_ (by assumption)))))
  go_loopw [20, 8] (fun i _ wr => ∃ k : Nat, k ≤ N ∧ i = .int .i64 k ∧ Loads w1 wr A1 N c1 ys H w2.heap.size k) (fun i _ _ => N - (intOf i).toNat)
  case atStart => exact ⟨0, Nat.zero_le _, rfl, hL0⟩
  case round =>
    obtain ⟨k, hk, rfl, hs⟩ := hrel
    by_cases hlt : k < N
    · have hJ2 := hs.list.ints (by omega) (fun y hy => by have := hBD.out y hy; omega)
      have hxx := hs.ext
      have hbig := hs.big
      have hbg2 : w1.heap.size < wr.heap.size := by omega
      obtain ⟨b, off, hA, hb, hcell⟩ := hJ2.at_ (by omega)
      subst hA
      have ik : (k : Int) < N := by omega
      obtain ⟨f, hf, hfH⟩ := HF0.out k hlt
      have hc0 := hcell (k * 4) (by omega)
      (try rw [← Nat.add_assoc] at hc0)
      have hc1 := hcell (k * 4 + 1) (by omega)
      (try rw [← Nat.add_assoc] at hc1)
      have hc2 := hcell (k * 4 + 2) (by omega)
      (try rw [← Nat.add_assoc] at hc2)
      have hc3 := hcell (k * 4 + 3) (by omega)
      (try rw [← Nat.add_assoc] at hc3)
      clear hcell
      rw [hf] at hc2
      have HF := Lib.hid hf
      clear hf
      have hfi : (f : Int) < H := by omega
      obtain ⟨hd1, hd2⟩ := hs.cell hfH
      have hdb := ldc_bd ys k f
      go_wp2
      go_roundw
      case rel => exact ⟨k + 1, by omega, by go_num, (hs.put HF.out hfH).extend (by with_reducible (repeat (first | exact Ext.refl _ | apply Ext.drewN | apply Ext.drew | apply Ext.alloc | (refine Ext.set ?_ (by first | (simp; done) | (simp; omega) | omega) _) | (refine Ext.trans ?_ (by assumption)))))⟩
      case measure => simp [intOf]; omega
    · obtain rfl : k = N := by omega
      have HT := Lib.hid (hs.done hxw)
      go_wp2
      go_ret2
      exact HT.out
theorem implLoadsOf_ret (A : Option Addr) (n c : Nat) (ps : List Int) (B : Option Addr) (m d : Nat) (os : List Int) (w : World) (hI : Ints w A n ps) (hJ : Ints w B m os) :
    Calls Try.prog 7 #[.slice A n c, .slice B m d] w (RetRow w 2 1 (ldn ps os) (ldv ps os) (hcd ps os)) := by
  unfold ldn ldv
  by_cases hr : hcd ps os = 0
  · rw [if_pos hr, if_pos hr, hr, hI.len, hJ.len]
    exact implLoadsOf_yes A n c ps B m d os w hI hJ hr
  · rw [if_neg hr, if_neg hr]
    have h1 : hcd ps os = 1 := by unfold hcd at hr ⊢; split <;> simp_all
    rw [h1]
    have HC : Hid (¬ hcd ps os = 0) := by show ¬ _; omega
    clear hr h1
    go_enter Try.func7, Try.ntmps7
    go_wp2_with (first | (go_at_call 28; (with_reducible refine (areHanded_no _ _ _ _ _ _ ps os _ (hI.ext (by with_reducible (repeat (first | exact Ext.refl _ | apply Ext.drewN | apply Ext.drew | apply Ext.alloc | (refine Ext.set ?_ (by first | (simp; done) | (simp; omega) | omega) _) | (refine Ext.trans ?_ (by assumption)))))) (hJ.ext (by with_reducible (repeat (first | exact Ext.refl _ | apply Ext.drewN | apply Ext.drew | apply Ext.alloc | (refine Ext.set ?_ (by first | (simp; done) | (simp; omega) | omega) _) | (refine Ext.trans ?_ (by assumption)))))) HC.out).mono ?_); rintro e w1 ⟨rfl, hx⟩; have hz := hx.size; (try simp at hz); (try (have hq0 : w.heap.size < w1.heap.size := by omega)); (try (have hc0 : ∀ o, w1.cell? ⟨w.heap.size, o, none⟩ = _ := fun o => hx.cells.1 _ o (by first | (simp; done) | (simp; omega) | omega))); (try (have hf0 : ∀ o, w1.frozen? ⟨w.heap.size, o, none⟩ = _ := fun o => hx.cells.2 _ o (by first | (simp; done) | (simp; omega) | omega))); (try (have hq1 : w.heap.size + 1 < w1.heap.size := by omega)); (try (have hc1 : ∀ o, w1.cell? ⟨w.heap.size + 1, o, none⟩ = _ := fun o => hx.cells.1 _ o (by first | (simp; done) | (simp; omega) | omega))); (try (have hf1 : ∀ o, w1.frozen? ⟨w.heap.size + 1, o, none⟩ = _ := fun o => hx.cells.2 _ o (by first | (simp; done) | (simp; omega) | omega))); (try (have hq2 : w.heap.size + 2 < w1.heap.size := by omega)); (try (have hc2 : ∀ o, w1.cell? ⟨w.heap.size + 2, o, none⟩ = _ := fun o => hx.cells.1 _ o (by first | (simp; done) | (simp; omega) | omega))); (try (have hf2 : ∀ o, w1.frozen? ⟨w.heap.size + 2, o, none⟩ = _ := fun o => hx.cells.2 _ o (by first | (simp; done) | (simp; omega) | omega)))))
    go_ret2
    exact RetRow.of_nil rfl (by with_reducible (repeat (first | exact Ext.refl _ | apply Ext.drewN | apply Ext.drew | apply Ext.alloc | (refine Ext.set ?_ (by first | (simp; done) | (simp; omega) | omega) _) | (refine Ext.trans ?_ (by assumption)))))
end Go.Proofs.Ytdmjmnkcnohhlaa
