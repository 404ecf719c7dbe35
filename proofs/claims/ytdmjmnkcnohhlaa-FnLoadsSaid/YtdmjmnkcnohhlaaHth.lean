/- The throws of a common period: contracts of handThrows, l14Throws, HandThrows. No condition but the stated bounds. -/
import Derived.Test.YtdmjmnkcnohhlaaVhd
namespace Go.Proofs.Ytdmjmnkcnohhlaa
set_option linter.unusedVariables false
set_option linter.unusedSimpArgs false
open Go.RowKit

/-- The throws at the first k beats, with their hands. -/
def htr (ps os : List Int) : Nat → List Int
  | 0 => []
  | k + 1 => htr ps os k ++ if 0 < thAt ps k then [(k : Int), thAt ps k, thAt os k, thAt os ((k : Int) + thAt ps k)] else []
def tcn (ps : List Int) : Nat → Nat
  | 0 => 0
  | k + 1 => tcn ps k + if 0 < thAt ps k then 1 else 0
theorem htr_yes {ps os : List Int} {k : Nat} (h : 0 < thAt ps k) : htr ps os (k + 1) = htr ps os k ++ [(k : Int), thAt ps k, thAt os k, thAt os ((k : Int) + thAt ps k)] ∧ tcn ps (k + 1) = tcn ps k + 1 := by
  simp only [htr, tcn]; rw [if_pos h, if_pos h]; exact ⟨rfl, rfl⟩
theorem htr_no {ps os : List Int} {k : Nat} (h : ¬ 0 < thAt ps k) : htr ps os (k + 1) = htr ps os k ∧ tcn ps (k + 1) = tcn ps k := by
  simp only [htr, tcn]; rw [if_neg h, if_neg h]; exact ⟨List.append_nil _, rfl⟩
theorem tcn_le (ps : List Int) (k : Nat) : tcn ps k ≤ k := by
  induction k with
  | zero => exact Nat.le_refl _
  | succ k ih => simp only [tcn]; split <;> omega
theorem htr_bd {ps os : List Int} (hv : vpat ps = true) (ho : vhd os = true) (k : Nat) : ∀ y ∈ htr ps os k, 0 ≤ y ∧ y ≤ k + 15 := by
  induction k with
  | zero => intro y hy; cases hy
  | succ k ih =>
    intro y hy
    simp only [htr, List.mem_append] at hy
    rcases hy with hy | hy
    · have := ih y hy; omega
    · split at hy
      · have h1 := thAt_bd hv k
        have h2 := ord_bd ho k
        have h3 := ord_bd ho ((k : Int) + thAt ps k)
        simp only [List.mem_cons, List.not_mem_nil, or_false] at hy
        rcases hy with rfl | rfl | rfl | rfl <;> omega
      · cases hy
theorem htr_len (ps os : List Int) (k : Nat) : (htr ps os k).length = tcn ps k * 4 := by
  induction k with
  | zero => rfl
  | succ k ih =>
    simp only [htr, tcn, List.length_append, ih]
    split <;> simp <;> omega
theorem elThrow : ElInfo Try.prog 38 4 := elInfo (z := .agg #[.int .i64 0, .int .i64 0, .int .i64 0, .int .i64 0]) (by kernel_rfl) rfl
/-- The two lists and their lengths, as they come. -/
structure Two (w : World) (A B : Option Addr) (n m : Nat) (ps os : List Int) : Prop where
  p : Ints w A n ps
  o : Ints w B m os
theorem Two.ext {w w' : World} {A B : Option Addr} {n m : Nat} {ps os : List Int} (h : Two w A B n m ps os) (k : Ext w w') : Two w' A B n m ps os := ⟨h.p.ext k, h.o.ext k⟩
set_option maxHeartbeats 2000000 in
theorem l14Throws_any (A B : Option Addr) (n c m d : Nat) (ps os : List Int) (w : World) (hI : Ints w A n ps) (hJ : Ints w B m os) (hv : vpat ps = true) (ho : vhd os = true) :
    Calls Try.prog 33 #[.slice A n c, .slice B m d] w fun e w' => ∃ A1 c1, e = .returned (.slice A1 (tcn ps (cmp_ n m)) c1) ∧ OwnR 38 4 w w' (.slice A1 (tcn ps (cmp_ n m)) c1) (tcn ps (cmp_ n m)) (htr ps os (cmp_ n m)) := by
  have hn : 1 ≤ n ∧ n ≤ 12 := by have := (thr_iff.1 (vpat_thr hv)).2; rw [hI.len] at this; exact this
  have hm : 1 ≤ m ∧ m ≤ 12 := by have := (vhd_iff ho).1; rw [hJ.len] at this; exact this
  have hcb := cmp_bd hn hm
  have HV := Lib.hid hv
  have HO := Lib.hid ho
  clear hv ho
  obtain ⟨L, hL⟩ : ∃ L, cmp_ n m = L := ⟨_, rfl⟩
  rw [hL] at hcb ⊢
  have HL : Hid ((cmp_ n m : Nat) = L) := hL
  clear hL
  have HT0 : Hid (∀ (wr : World) (v : Value), OwnR 38 4 w wr v (tcn ps L) (htr ps os L) → ∃ A1 c1, Ending.returned v = .returned (.slice A1 (tcn ps L) c1) ∧ OwnR 38 4 w wr (.slice A1 (tcn ps L) c1) (tcn ps L) (htr ps os L)) := by
    intro wr v ho
    obtain ⟨A1, c1, rfl⟩ := ho.forms
    exact ⟨A1, c1, rfl, ho⟩
  go_enter Try.func33, Try.ntmps33
  go_wp2
  go_loopw [5, 6, 7] (fun v i _ wr => ∃ k : Nat, k ≤ L ∧ i = .int .i64 k ∧ OwnR 38 4 w wr v (tcn ps k) (htr ps os k)) (fun _ i _ _ => L - (intOf i).toNat)
  case atStart => exact ⟨0, Nat.zero_le _, rfl, ownR_empty (Ext.refl _) _ _⟩
  case round =>
    obtain ⟨k, hk, rfl, hown⟩ := hrel
    have hx0 := hown.ext
    by_cases hlt : k < L
    · have htc := tcn_le ps k
      have htb := thAt_bd HV.out (k : Int)
      by_cases h0 : 0 < thAt ps k
      · obtain ⟨hs, hn2⟩ := htr_yes (os := os) h0
        have HS := Lib.hid hs
        have HN := Lib.hid hn2
        clear hs hn2
        generalize hx : thAt ps k = x at *
        have HX := Lib.hid hx
        clear hx
        go_wp2_with (first | (go_at_call 36; (with_reducible refine (l14Common_any _ _ n _ m _ _ hn hm).mono ?_); rw [HL.out]; rintro e w' ⟨rfl, rfl⟩) | (go_at_call 59; (with_reducible refine (l02At_any _ _ _ ps _ _ (hI.ext hx0) HV.out).mono ?_); rw [HX.out]; rintro e w' ⟨rfl, rfl⟩) | (go_at_call 49; (with_reducible refine (l14At_any _ _ _ os _ _ (hJ.ext hx0) HO.out).mono ?_); rintro e w' ⟨rfl, rfl⟩) | (at_builtin; refine appM elThrow (by omega) rfl _ _ Try.underlying30 rfl rfl (hown.trans (by with_reducible (repeat (first | exact Ext.refl _ | apply Ext.drewN | apply Ext.drew | apply Ext.alloc | (refine Ext.set ?_ (by first | (simp; done) | (simp; omega) | omega) _) | (refine Ext.trans ?_ (by assumption)))))) (by omega) rfl (heap_alloc_new _ _) (ys := [(k : Int), x, thAt os k, thAt os ((k : Int) + x)]) (by rfl) (by rfl) ?_; intro v' w3 hown'))
        go_roundw
        case rel => exact ⟨k + 1, by omega, by go_num, by rw [HS.out, HN.out]; exact hown'⟩
        case measure => simp [intOf]; omega
      · obtain ⟨hs, hn2⟩ := htr_no (os := os) h0
        have HS := Lib.hid hs
        have HN := Lib.hid hn2
        clear hs hn2
        generalize hx : thAt ps k = x at *
        have HX := Lib.hid hx
        clear hx
        go_wp2_with (first | (go_at_call 36; (with_reducible refine (l14Common_any _ _ n _ m _ _ hn hm).mono ?_); rw [HL.out]; rintro e w' ⟨rfl, rfl⟩) | (go_at_call 59; (with_reducible refine (l02At_any _ _ _ ps _ _ (hI.ext hx0) HV.out).mono ?_); rw [HX.out]; rintro e w' ⟨rfl, rfl⟩))
        go_roundw
        case rel => exact ⟨k + 1, by omega, by go_num, by rw [HS.out, HN.out]; exact hown⟩
        case measure => simp [intOf]; omega
    · obtain rfl : k = L := by omega
      go_wp2_with (first | (go_at_call 36; (with_reducible refine (l14Common_any _ _ n _ m _ _ hn hm).mono ?_); rw [HL.out]; rintro e w' ⟨rfl, rfl⟩))
      go_ret
      exact HT0.out _ _ hown
set_option maxHeartbeats 2000000 in
theorem handThrows_any (A B : Option Addr) (n c m d : Nat) (ps os : List Int) (w : World) (hI : Ints w A n ps) (hJ : Ints w B m os) (hv : vpat ps = true) (ho : vhd os = true) :
    Calls Try.prog 30 #[.slice A n c, .slice B m d] w fun e w' => ∃ A1 c1, e = .returned (.slice A1 (tcn ps (cmp_ n m)) c1) ∧ OwnR 38 4 w w' (.slice A1 (tcn ps (cmp_ n m)) c1) (tcn ps (cmp_ n m)) (htr ps os (cmp_ n m)) := by
  have hn : 1 ≤ n ∧ n ≤ 12 := by have := (thr_iff.1 (vpat_thr hv)).2; rw [hI.len] at this; exact this
  have hm : 1 ≤ m ∧ m ≤ 12 := by have := (vhd_iff ho).1; rw [hJ.len] at this; exact this
  have hcb := cmp_bd hn hm
  have HV := Lib.hid hv
  have HO := Lib.hid ho
  clear hv ho
  obtain ⟨L, hL⟩ : ∃ L, cmp_ n m = L := ⟨_, rfl⟩
  rw [hL] at hcb ⊢
  have HL : Hid ((cmp_ n m : Nat) = L) := hL
  clear hL
  have HT0 : Hid (∀ (wr : World) (v : Value), OwnR 38 4 w wr v (tcn ps L) (htr ps os L) → ∃ A1 c1, Ending.returned v = .returned (.slice A1 (tcn ps L) c1) ∧ OwnR 38 4 w wr (.slice A1 (tcn ps L) c1) (tcn ps L) (htr ps os L)) := by
    intro wr v ho
    obtain ⟨A1, c1, rfl⟩ := ho.forms
    exact ⟨A1, c1, rfl, ho⟩
  go_enter Try.func30, Try.ntmps30
  go_wp2_with (first | (go_at_call 34; (with_reducible refine (commonPeriod_any _ _ n _ m _ _ hn hm).mono ?_); rw [HL.out]; rintro e w2 ⟨rfl, hx2⟩))
  go_loopw [5, 12, 6, 7] (fun v i _ _ wr => ∃ k : Nat, k ≤ L ∧ i = .int .i64 k ∧ OwnR 38 4 w wr v (tcn ps k) (htr ps os k)) (fun _ i _ _ _ => L - (intOf i).toNat)
  case atStart => exact ⟨0, Nat.zero_le _, rfl, (ownR_empty (Ext.refl _) _ _).trans hx2⟩
  case round =>
    obtain ⟨k, hk, rfl, hown⟩ := hrel
    have hx0 := hown.ext
    by_cases hlt : k < L
    · have htc := tcn_le ps k
      have htb := thAt_bd HV.out (k : Int)
      by_cases h0 : 0 < thAt ps k
      · obtain ⟨hs, hn2⟩ := htr_yes (os := os) h0
        have HS := Lib.hid hs
        have HN := Lib.hid hn2
        clear hs hn2
        generalize hx : thAt ps k = x at *
        have HX := Lib.hid hx
        clear hx
        go_wp2_with (first | (go_at_call 57; (with_reducible refine (throwAt_any _ _ _ ps _ _ (hI.ext hx0) HV.out).mono ?_); rw [HX.out]; rintro e w' ⟨rfl, rfl⟩) | (go_at_call 47; (with_reducible refine (handAt_any _ _ _ os _ _ (hJ.ext hx0) HO.out).mono ?_); rintro e w' ⟨rfl, rfl⟩) | (at_builtin; refine appM elThrow (by omega) rfl _ _ Try.underlying30 rfl rfl (hown.trans (by with_reducible (repeat (first | exact Ext.refl _ | apply Ext.drewN | apply Ext.drew | apply Ext.alloc | (refine Ext.set ?_ (by first | (simp; done) | (simp; omega) | omega) _) | (refine Ext.trans ?_ (by assumption)))))) (by omega) rfl (heap_alloc_new _ _) (ys := [(k : Int), x, thAt os k, thAt os ((k : Int) + x)]) (by rfl) (by rfl) ?_; intro v' w3 hown'))
        go_roundw
        case rel => exact ⟨k + 1, by omega, by go_num, by rw [HS.out, HN.out]; exact hown'⟩
        case measure => simp [intOf]; omega
      · obtain ⟨hs, hn2⟩ := htr_no (os := os) h0
        have HS := Lib.hid hs
        have HN := Lib.hid hn2
        clear hs hn2
        generalize hx : thAt ps k = x at *
        have HX := Lib.hid hx
        clear hx
        go_wp2_with (first | (go_at_call 57; (with_reducible refine (throwAt_any _ _ _ ps _ _ (hI.ext hx0) HV.out).mono ?_); rw [HX.out]; rintro e w' ⟨rfl, rfl⟩))
        go_roundw
        case rel => exact ⟨k + 1, by omega, by go_num, by rw [HS.out, HN.out]; exact hown⟩
        case measure => simp [intOf]; omega
    · obtain rfl : k = L := by omega
      go_wp2
      go_ret
      exact HT0.out _ _ hown
/-- What HandThrows gives. -/
def hths (ps os : List Int) : List Int := if hcd ps os = 0 then htr ps os (cmp_ ps.length os.length) else []
def hthn (ps os : List Int) : Nat := if hcd ps os = 0 then tcn ps (cmp_ ps.length os.length) else 0
theorem hths_bd (ps os : List Int) : hthn ps os ≤ 1048576 ∧ ∀ y ∈ hths ps os, -9223372036854775808 ≤ y ∧ y ≤ 9223372036854775807 := by
  unfold hthn hths
  split
  · rename_i hr
    obtain ⟨hv, ho⟩ := hcd_zero hr
    have hc := cmp_bd (thr_iff.1 (vpat_thr hv)).2 (vhd_iff ho).1
    have := tcn_le ps (cmp_ ps.length os.length)
    exact ⟨by omega, fun y hy => by have := htr_bd hv ho _ y hy; omega⟩
  · exact ⟨by omega, by simp⟩
theorem specHandThrows_ret (A : Option Addr) (n c : Nat) (ps : List Int) (B : Option Addr) (m d : Nat) (os : List Int) (w : World) (hI : Ints w A n ps) (hJ : Ints w B m os) :
    Calls Try.prog 18 #[.slice A n c, .slice B m d] w (RetRow w 38 4 (hthn ps os) (hths ps os) (hcd ps os)) := by
  unfold hthn hths
  by_cases hr : hcd ps os = 0
  · rw [if_pos hr, if_pos hr, hr, hI.len, hJ.len]
    obtain ⟨hv, ho⟩ := hcd_zero hr
    have HC := Lib.hid hr
    have HV := Lib.hid hv
    have HO := Lib.hid ho
    clear hr hv ho
    go_enter Try.func18, Try.ntmps18
    go_wp2_with (first | (go_at_call 31; (with_reducible refine (l14Code_is _ _ _ _ _ _ ps os _ (hI.ext (by with_reducible (repeat (first | exact Ext.refl _ | apply Ext.drewN | apply Ext.drew | apply Ext.alloc | (refine Ext.set ?_ (by first | (simp; done) | (simp; omega) | omega) _) | (refine Ext.trans ?_ (by assumption)))))) (hJ.ext (by with_reducible (repeat (first | exact Ext.refl _ | apply Ext.drewN | apply Ext.drew | apply Ext.alloc | (refine Ext.set ?_ (by first | (simp; done) | (simp; omega) | omega) _) | (refine Ext.trans ?_ (by assumption)))))) 0 HC).mono ?_); rintro e w1 ⟨rfl, hx⟩; have hz := hx.size; (try simp at hz); (try (have hq0 : w.heap.size < w1.heap.size := by omega)); (try (have hc0 : ∀ o, w1.cell? ⟨w.heap.size, o, none⟩ = _ := fun o => hx.cells.1 _ o (by first | (simp; done) | (simp; omega) | omega))); (try (have hf0 : ∀ o, w1.frozen? ⟨w.heap.size, o, none⟩ = _ := fun o => hx.cells.2 _ o (by first | (simp; done) | (simp; omega) | omega))); (try (have hq1 : w.heap.size + 1 < w1.heap.size := by omega)); (try (have hc1 : ∀ o, w1.cell? ⟨w.heap.size + 1, o, none⟩ = _ := fun o => hx.cells.1 _ o (by first | (simp; done) | (simp; omega) | omega))); (try (have hf1 : ∀ o, w1.frozen? ⟨w.heap.size + 1, o, none⟩ = _ := fun o => hx.cells.2 _ o (by first | (simp; done) | (simp; omega) | omega))); (try (have hq2 : w.heap.size + 2 < w1.heap.size := by omega)); (try (have hc2 : ∀ o, w1.cell? ⟨w.heap.size + 2, o, none⟩ = _ := fun o => hx.cells.1 _ o (by first | (simp; done) | (simp; omega) | omega))); (try (have hf2 : ∀ o, w1.frozen? ⟨w.heap.size + 2, o, none⟩ = _ := fun o => hx.cells.2 _ o (by first | (simp; done) | (simp; omega) | omega)))) | (go_at_call 33; (with_reducible refine (l14Throws_any _ _ n _ m _ ps os _ (hI.ext (by with_reducible (repeat (first | exact Ext.refl _ | apply Ext.drewN | apply Ext.drew | apply Ext.alloc | (refine Ext.set ?_ (by first | (simp; done) | (simp; omega) | omega) _) | (refine Ext.trans ?_ (by assumption)))))) (hJ.ext (by with_reducible (repeat (first | exact Ext.refl _ | apply Ext.drewN | apply Ext.drew | apply Ext.alloc | (refine Ext.set ?_ (by first | (simp; done) | (simp; omega) | omega) _) | (refine Ext.trans ?_ (by assumption)))))) HV.out HO.out).mono ?_); rintro e w2 ⟨A1, c1, rfl, ho⟩))
    go_ret2
    exact RetRow.of_ownR rfl (ho.rebase (by with_reducible (repeat (first | exact Ext.refl _ | apply Ext.drewN | apply Ext.drew | apply Ext.alloc | (refine Ext.set ?_ (by first | (simp; done) | (simp; omega) | omega) _) | (refine Ext.trans ?_ (by assumption))))))
  · rw [if_neg hr, if_neg hr]
    have h0 : (hcd ps os != 0) = true := by simpa using hr
    obtain ⟨r, hr⟩ : ∃ r, hcd ps os = r := ⟨_, rfl⟩
    rw [hr] at h0 ⊢
    have HC := Lib.hid hr
    clear hr
    go_enter Try.func18, Try.ntmps18
    go_wp2_with (first | (go_at_call 31; (with_reducible refine (l14Code_is _ _ _ _ _ _ ps os _ (hI.ext (by with_reducible (repeat (first | exact Ext.refl _ | apply Ext.drewN | apply Ext.drew | apply Ext.alloc | (refine Ext.set ?_ (by first | (simp; done) | (simp; omega) | omega) _) | (refine Ext.trans ?_ (by assumption)))))) (hJ.ext (by with_reducible (repeat (first | exact Ext.refl _ | apply Ext.drewN | apply Ext.drew | apply Ext.alloc | (refine Ext.set ?_ (by first | (simp; done) | (simp; omega) | omega) _) | (refine Ext.trans ?_ (by assumption)))))) r HC).mono ?_); rintro e w1 ⟨rfl, hx⟩; have hz := hx.size; (try simp at hz); (try (have hq0 : w.heap.size < w1.heap.size := by omega)); (try (have hc0 : ∀ o, w1.cell? ⟨w.heap.size, o, none⟩ = _ := fun o => hx.cells.1 _ o (by first | (simp; done) | (simp; omega) | omega))); (try (have hf0 : ∀ o, w1.frozen? ⟨w.heap.size, o, none⟩ = _ := fun o => hx.cells.2 _ o (by first | (simp; done) | (simp; omega) | omega))); (try (have hq1 : w.heap.size + 1 < w1.heap.size := by omega)); (try (have hc1 : ∀ o, w1.cell? ⟨w.heap.size + 1, o, none⟩ = _ := fun o => hx.cells.1 _ o (by first | (simp; done) | (simp; omega) | omega))); (try (have hf1 : ∀ o, w1.frozen? ⟨w.heap.size + 1, o, none⟩ = _ := fun o => hx.cells.2 _ o (by first | (simp; done) | (simp; omega) | omega))); (try (have hq2 : w.heap.size + 2 < w1.heap.size := by omega)); (try (have hc2 : ∀ o, w1.cell? ⟨w.heap.size + 2, o, none⟩ = _ := fun o => hx.cells.1 _ o (by first | (simp; done) | (simp; omega) | omega))); (try (have hf2 : ∀ o, w1.frozen? ⟨w.heap.size + 2, o, none⟩ = _ := fun o => hx.cells.2 _ o (by first | (simp; done) | (simp; omega) | omega)))))
    go_ret2
    exact RetRow.of_nil rfl (by with_reducible (repeat (first | exact Ext.refl _ | apply Ext.drewN | apply Ext.drew | apply Ext.alloc | (refine Ext.set ?_ (by first | (simp; done) | (simp; omega) | omega) _) | (refine Ext.trans ?_ (by assumption)))))
theorem implHandThrows_ret (A : Option Addr) (n c : Nat) (ps : List Int) (B : Option Addr) (m d : Nat) (os : List Int) (w : World) (hI : Ints w A n ps) (hJ : Ints w B m os) :
    Calls Try.prog 15 #[.slice A n c, .slice B m d] w (RetRow w 38 4 (hthn ps os) (hths ps os) (hcd ps os)) := by
  unfold hthn hths
  by_cases hr : hcd ps os = 0
  · rw [if_pos hr, if_pos hr, hr, hI.len, hJ.len]
    obtain ⟨hv, ho⟩ := hcd_zero hr
    have HC := Lib.hid hr
    have HV := Lib.hid hv
    have HO := Lib.hid ho
    clear hr hv ho
    go_enter Try.func15, Try.ntmps15
    go_wp2_with (first | (go_at_call 28; (with_reducible refine (areHanded_yes _ _ _ _ _ _ ps os _ (hI.ext (by with_reducible (repeat (first | exact Ext.refl _ | apply Ext.drewN | apply Ext.drew | apply Ext.alloc | (refine Ext.set ?_ (by first | (simp; done) | (simp; omega) | omega) _) | (refine Ext.trans ?_ (by assumption)))))) (hJ.ext (by with_reducible (repeat (first | exact Ext.refl _ | apply Ext.drewN | apply Ext.drew | apply Ext.alloc | (refine Ext.set ?_ (by first | (simp; done) | (simp; omega) | omega) _) | (refine Ext.trans ?_ (by assumption)))))) HC.out).mono ?_); rintro e w1 ⟨rfl, hx⟩; have hz := hx.size; (try simp at hz); (try (have hq0 : w.heap.size < w1.heap.size := by omega)); (try (have hc0 : ∀ o, w1.cell? ⟨w.heap.size, o, none⟩ = _ := fun o => hx.cells.1 _ o (by first | (simp; done) | (simp; omega) | omega))); (try (have hf0 : ∀ o, w1.frozen? ⟨w.heap.size, o, none⟩ = _ := fun o => hx.cells.2 _ o (by first | (simp; done) | (simp; omega) | omega))); (try (have hq1 : w.heap.size + 1 < w1.heap.size := by omega)); (try (have hc1 : ∀ o, w1.cell? ⟨w.heap.size + 1, o, none⟩ = _ := fun o => hx.cells.1 _ o (by first | (simp; done) | (simp; omega) | omega))); (try (have hf1 : ∀ o, w1.frozen? ⟨w.heap.size + 1, o, none⟩ = _ := fun o => hx.cells.2 _ o (by first | (simp; done) | (simp; omega) | omega))); (try (have hq2 : w.heap.size + 2 < w1.heap.size := by omega)); (try (have hc2 : ∀ o, w1.cell? ⟨w.heap.size + 2, o, none⟩ = _ := fun o => hx.cells.1 _ o (by first | (simp; done) | (simp; omega) | omega))); (try (have hf2 : ∀ o, w1.frozen? ⟨w.heap.size + 2, o, none⟩ = _ := fun o => hx.cells.2 _ o (by first | (simp; done) | (simp; omega) | omega)))) | (go_at_call 30; (with_reducible refine (handThrows_any _ _ n _ m _ ps os _ (hI.ext (by with_reducible (repeat (first | exact Ext.refl _ | apply Ext.drewN | apply Ext.drew | apply Ext.alloc | (refine Ext.set ?_ (by first | (simp; done) | (simp; omega) | omega) _) | (refine Ext.trans ?_ (by assumption)))))) (hJ.ext (by with_reducible (repeat (first | exact Ext.refl _ | apply Ext.drewN | apply Ext.drew | apply Ext.alloc | (refine Ext.set ?_ (by first | (simp; done) | (simp; omega) | omega) _) | (refine Ext.trans ?_ (by assumption)))))) HV.out HO.out).mono ?_); rintro e w2 ⟨A1, c1, rfl, ho⟩))
    go_ret2
    exact RetRow.of_ownR rfl (ho.rebase (by with_reducible (repeat (first | exact Ext.refl _ | apply Ext.drewN | apply Ext.drew | apply Ext.alloc | (refine Ext.set ?_ (by first | (simp; done) | (simp; omega) | omega) _) | (refine Ext.trans ?_ (by assumption))))))
  · rw [if_neg hr, if_neg hr]
    have h1 : hcd ps os = 1 := by unfold hcd at hr ⊢; split <;> simp_all
    rw [h1]
    have HC : Hid (¬ hcd ps os = 0) := by show ¬ _; omega
    clear hr h1
    go_enter Try.func15, Try.ntmps15
    go_wp2_with (first | (go_at_call 28; (with_reducible refine (areHanded_no _ _ _ _ _ _ ps os _ (hI.ext (by with_reducible (repeat (first | exact Ext.refl _ | apply Ext.drewN | apply Ext.drew | apply Ext.alloc | (refine Ext.set ?_ (by first | (simp; done) | (simp; omega) | omega) _) | (refine Ext.trans ?_ (by assumption)))))) (hJ.ext (by with_reducible (repeat (first | exact Ext.refl _ | apply Ext.drewN | apply Ext.drew | apply Ext.alloc | (refine Ext.set ?_ (by first | (simp; done) | (simp; omega) | omega) _) | (refine Ext.trans ?_ (by assumption)))))) HC.out).mono ?_); rintro e w1 ⟨rfl, hx⟩; have hz := hx.size; (try simp at hz); (try (have hq0 : w.heap.size < w1.heap.size := by omega)); (try (have hc0 : ∀ o, w1.cell? ⟨w.heap.size, o, none⟩ = _ := fun o => hx.cells.1 _ o (by first | (simp; done) | (simp; omega) | omega))); (try (have hf0 : ∀ o, w1.frozen? ⟨w.heap.size, o, none⟩ = _ := fun o => hx.cells.2 _ o (by first | (simp; done) | (simp; omega) | omega))); (try (have hq1 : w.heap.size + 1 < w1.heap.size := by omega)); (try (have hc1 : ∀ o, w1.cell? ⟨w.heap.size + 1, o, none⟩ = _ := fun o => hx.cells.1 _ o (by first | (simp; done) | (simp; omega) | omega))); (try (have hf1 : ∀ o, w1.frozen? ⟨w.heap.size + 1, o, none⟩ = _ := fun o => hx.cells.2 _ o (by first | (simp; done) | (simp; omega) | omega))); (try (have hq2 : w.heap.size + 2 < w1.heap.size := by omega)); (try (have hc2 : ∀ o, w1.cell? ⟨w.heap.size + 2, o, none⟩ = _ := fun o => hx.cells.1 _ o (by first | (simp; done) | (simp; omega) | omega))); (try (have hf2 : ∀ o, w1.frozen? ⟨w.heap.size + 2, o, none⟩ = _ := fun o => hx.cells.2 _ o (by first | (simp; done) | (simp; omega) | omega)))))
    go_ret2
    exact RetRow.of_nil rfl (by with_reducible (repeat (first | exact Ext.refl _ | apply Ext.drewN | apply Ext.drew | apply Ext.alloc | (refine Ext.set ?_ (by first | (simp; done) | (simp; omega) | omega) _) | (refine Ext.trans ?_ (by assumption)))))
end Go.Proofs.Ytdmjmnkcnohhlaa
