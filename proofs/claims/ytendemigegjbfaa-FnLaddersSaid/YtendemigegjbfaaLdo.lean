/- Pictures of throws: contracts of LadderOf. No condition but the stated bounds. -/
import Derived.Test.YtendemigegjbfaaLdr
import Derived.Test.YtendemigegjbfaaMkt
namespace Go.Proofs.Ytendemigegjbfaa
set_option linter.unusedVariables false
set_option linter.unusedSimpArgs false
open Go.RowKit Go.Joins

/-- What hands back a row of strings and a code. -/
def RetSS (w : World) (n : Nat) (ss : List ByteArray) (r : Int) (en : Ending) (w' : World) : Prop :=
  ∃ A c, en = .returned (.tuple #[.slice A n c, .int .i64 r]) ∧ RowG w' w.heap.size w'.heap.size 9 1 A n c (ss.map Value.string) ∧ Ext w w'
theorem RetSS.of_nil {w w' : World} {r : Int} {en : Ending} (h : en = .returned (.tuple #[.slice none 0 0, .int .i64 r])) (hx : Ext w w') : RetSS w 0 [] r en w' :=
  ⟨none, 0, h, RowG.nil _ _ _ _ _, hx⟩
theorem RetSS.of_own {w w' : World} {n : Nat} {ss : List ByteArray} {r : Int} {A : Option Addr} {c : Nat} {en : Ending} (h : en = .returned (.tuple #[.slice A n c, .int .i64 r])) (ho : OwnG 9 1 w w' (.slice A n c) n (ss.map Value.string)) : RetSS w n ss r en w' :=
  ⟨A, c, h, ho.row, ho.ext⟩
/-- What LadderOf gives. -/
def lds (xs : List Int) (t : Int) : List ByteArray := if rcd xs t = 0 then ldl (thAt xs) (prp xs).toNat t.toNat else []
theorem ldl_sz (h : Int → Int) (N k : Nat) (hN : N ≤ 15) : ∀ s ∈ ldl h N k, s.size ≤ 9223372036854775807 := by
  intro s hs
  simp only [ldl, List.mem_map, List.mem_range] at hs
  obtain ⟨i, hi, rfl⟩ := hs
  show (lnb h i N).toArray.size ≤ _
  have := lnb_len h i N
  simp
  omega
theorem lds_bd (xs : List Int) (t : Int) : thpn xs t ≤ 1048576 ∧ ∀ s ∈ lds xs t, s.size ≤ 9223372036854775807 := by
  refine ⟨(thps_bd xs t).1, ?_⟩
  unfold lds
  split
  · rename_i hr
    obtain ⟨hv, ht⟩ := rcd_zero hr
    have := prp_bd hv
    exact ldl_sz _ _ _ (by omega)
  · simp
set_option maxHeartbeats 1000000 in
theorem implLadderOf_ret (A : Option Addr) (n c : Nat) (xs : List Int) (t : Int) (w : World) (hI : Ints w A n xs) :
    Calls Try.prog 21 #[.slice A n c, .int .i64 t] w (RetSS w (thpn xs t) (lds xs t) (rcd xs t)) := by
  unfold thpn lds
  by_cases hr : rcd xs t = 0
  · rw [if_pos hr, if_pos hr, hr]
    obtain ⟨hv, ht0, ht⟩ := rcd_zero hr
    have hp := prp_bd hv
    have HV := Lib.hid hv
    have HC := Lib.hid hr
    obtain ⟨k, rfl⟩ : ∃ k : Nat, t = k := ⟨t.toNat, by omega⟩
    rw [Int.toNat_natCast]
    obtain ⟨N, hN⟩ : ∃ N : Nat, prp xs = N := ⟨(prp xs).toNat, by omega⟩
    have HN := Lib.hid hN
    rw [hN, Int.toNat_natCast]
    clear hr hv hN hp
    go_enter Try.func21, Try.ntmps21
    go_wp2_with (first | (go_at_call 33; (with_reducible refine (rowsCode_is _ _ _ xs _ _ (hI.ext (by with_reducible (repeat (first | exact Ext.refl _ | apply Ext.drewN | apply Ext.drew | apply Ext.alloc | (refine Ext.set ?_ (by first | (simp; done) | (simp; omega) | omega) _) | (refine Ext.trans ?_ (by assumption)))))) 0 HC).mono ?_); rintro e w1 ⟨rfl, hx⟩; have hz := hx.size; (try simp at hz); (try (have hq0 : w.heap.size < w1.heap.size := by omega)); (try (have hc0 : ∀ o, w1.cell? ⟨w.heap.size, o, none⟩ = _ := fun o => hx.cells.1 _ o (by first | (simp; done) | (simp; omega) | omega))); (try (have hf0 : ∀ o, w1.frozen? ⟨w.heap.size, o, none⟩ = _ := fun o => hx.cells.2 _ o (by first | (simp; done) | (simp; omega) | omega))); (try (have hq1 : w.heap.size + 1 < w1.heap.size := by omega)); (try (have hc1 : ∀ o, w1.cell? ⟨w.heap.size + 1, o, none⟩ = _ := fun o => hx.cells.1 _ o (by first | (simp; done) | (simp; omega) | omega))); (try (have hf1 : ∀ o, w1.frozen? ⟨w.heap.size + 1, o, none⟩ = _ := fun o => hx.cells.2 _ o (by first | (simp; done) | (simp; omega) | omega))); (try (have hq2 : w.heap.size + 2 < w1.heap.size := by omega)); (try (have hc2 : ∀ o, w1.cell? ⟨w.heap.size + 2, o, none⟩ = _ := fun o => hx.cells.1 _ o (by first | (simp; done) | (simp; omega) | omega))); (try (have hf2 : ∀ o, w1.frozen? ⟨w.heap.size + 2, o, none⟩ = _ := fun o => hx.cells.2 _ o (by first | (simp; done) | (simp; omega) | omega)))) | (go_at_call 53; (with_reducible refine (ladder_any _ _ _ xs k N _ (hI.ext (by with_reducible (repeat (first | exact Ext.refl _ | apply Ext.drewN | apply Ext.drew | apply Ext.alloc | (refine Ext.set ?_ (by first | (simp; done) | (simp; omega) | omega) _) | (refine Ext.trans ?_ (by assumption)))))) HV.out (by omega) HN.out).mono ?_); rintro e w2 ⟨A1, c1, rfl, ho⟩))
    go_ret2
    exact RetSS.of_own rfl (ho.rebase (by with_reducible (repeat (first | exact Ext.refl _ | apply Ext.drewN | apply Ext.drew | apply Ext.alloc | (refine Ext.set ?_ (by first | (simp; done) | (simp; omega) | omega) _) | (refine Ext.trans ?_ (by assumption))))))
  · rw [if_neg hr, if_neg hr]
    have h0 : (rcd xs t != 0) = true := by simpa using hr
    obtain ⟨r, hr⟩ : ∃ r, rcd xs t = r := ⟨_, rfl⟩
    rw [hr] at h0 ⊢
    have HC := Lib.hid hr
    clear hr
    go_enter Try.func21, Try.ntmps21
    go_wp2_with (first | (go_at_call 33; (with_reducible refine (rowsCode_is _ _ _ xs _ _ (hI.ext (by with_reducible (repeat (first | exact Ext.refl _ | apply Ext.drewN | apply Ext.drew | apply Ext.alloc | (refine Ext.set ?_ (by first | (simp; done) | (simp; omega) | omega) _) | (refine Ext.trans ?_ (by assumption)))))) r HC).mono ?_); rintro e w1 ⟨rfl, hx⟩; have hz := hx.size; (try simp at hz); (try (have hq0 : w.heap.size < w1.heap.size := by omega)); (try (have hc0 : ∀ o, w1.cell? ⟨w.heap.size, o, none⟩ = _ := fun o => hx.cells.1 _ o (by first | (simp; done) | (simp; omega) | omega))); (try (have hf0 : ∀ o, w1.frozen? ⟨w.heap.size, o, none⟩ = _ := fun o => hx.cells.2 _ o (by first | (simp; done) | (simp; omega) | omega))); (try (have hq1 : w.heap.size + 1 < w1.heap.size := by omega)); (try (have hc1 : ∀ o, w1.cell? ⟨w.heap.size + 1, o, none⟩ = _ := fun o => hx.cells.1 _ o (by first | (simp; done) | (simp; omega) | omega))); (try (have hf1 : ∀ o, w1.frozen? ⟨w.heap.size + 1, o, none⟩ = _ := fun o => hx.cells.2 _ o (by first | (simp; done) | (simp; omega) | omega))); (try (have hq2 : w.heap.size + 2 < w1.heap.size := by omega)); (try (have hc2 : ∀ o, w1.cell? ⟨w.heap.size + 2, o, none⟩ = _ := fun o => hx.cells.1 _ o (by first | (simp; done) | (simp; omega) | omega))); (try (have hf2 : ∀ o, w1.frozen? ⟨w.heap.size + 2, o, none⟩ = _ := fun o => hx.cells.2 _ o (by first | (simp; done) | (simp; omega) | omega)))))
    go_ret2
    exact RetSS.of_nil rfl (by with_reducible (repeat (first | exact Ext.refl _ | apply Ext.drewN | apply Ext.drew | apply Ext.alloc | (refine Ext.set ?_ (by first | (simp; done) | (simp; omega) | omega) _) | (refine Ext.trans ?_ (by assumption)))))
set_option maxHeartbeats 1000000 in
theorem specLadderOf_ret (A : Option Addr) (n c : Nat) (xs : List Int) (t : Int) (w : World) (hI : Ints w A n xs) :
    Calls Try.prog 22 #[.slice A n c, .int .i64 t] w (RetSS w (thpn xs t) (lds xs t) (rcd xs t)) := by
  unfold thpn lds
  by_cases hr : rcd xs t = 0
  · rw [if_pos hr, if_pos hr, hr]
    obtain ⟨hv, ht0, ht⟩ := rcd_zero hr
    have hp := prp_bd hv
    have HV := Lib.hid hv
    have HC := Lib.hid hr
    obtain ⟨k, rfl⟩ : ∃ k : Nat, t = k := ⟨t.toNat, by omega⟩
    rw [Int.toNat_natCast]
    obtain ⟨N, hN⟩ : ∃ N : Nat, prp xs = N := ⟨(prp xs).toNat, by omega⟩
    have HN := Lib.hid hN
    rw [hN, Int.toNat_natCast]
    clear hr hv hN hp
    go_enter Try.func22, Try.ntmps22
    go_wp2_with (first | (go_at_call 35; (with_reducible refine (l18Code_is _ _ _ xs _ _ (hI.ext (by with_reducible (repeat (first | exact Ext.refl _ | apply Ext.drewN | apply Ext.drew | apply Ext.alloc | (refine Ext.set ?_ (by first | (simp; done) | (simp; omega) | omega) _) | (refine Ext.trans ?_ (by assumption)))))) 0 HC).mono ?_); rintro e w1 ⟨rfl, hx⟩; have hz := hx.size; (try simp at hz); (try (have hq0 : w.heap.size < w1.heap.size := by omega)); (try (have hc0 : ∀ o, w1.cell? ⟨w.heap.size, o, none⟩ = _ := fun o => hx.cells.1 _ o (by first | (simp; done) | (simp; omega) | omega))); (try (have hf0 : ∀ o, w1.frozen? ⟨w.heap.size, o, none⟩ = _ := fun o => hx.cells.2 _ o (by first | (simp; done) | (simp; omega) | omega))); (try (have hq1 : w.heap.size + 1 < w1.heap.size := by omega)); (try (have hc1 : ∀ o, w1.cell? ⟨w.heap.size + 1, o, none⟩ = _ := fun o => hx.cells.1 _ o (by first | (simp; done) | (simp; omega) | omega))); (try (have hf1 : ∀ o, w1.frozen? ⟨w.heap.size + 1, o, none⟩ = _ := fun o => hx.cells.2 _ o (by first | (simp; done) | (simp; omega) | omega))); (try (have hq2 : w.heap.size + 2 < w1.heap.size := by omega)); (try (have hc2 : ∀ o, w1.cell? ⟨w.heap.size + 2, o, none⟩ = _ := fun o => hx.cells.1 _ o (by first | (simp; done) | (simp; omega) | omega))); (try (have hf2 : ∀ o, w1.frozen? ⟨w.heap.size + 2, o, none⟩ = _ := fun o => hx.cells.2 _ o (by first | (simp; done) | (simp; omega) | omega)))) | (go_at_call 54; (with_reducible refine (l18Lines_any _ _ _ xs k N _ (hI.ext (by with_reducible (repeat (first | exact Ext.refl _ | apply Ext.drewN | apply Ext.drew | apply Ext.alloc | (refine Ext.set ?_ (by first | (simp; done) | (simp; omega) | omega) _) | (refine Ext.trans ?_ (by assumption)))))) HV.out (by omega) HN.out).mono ?_); rintro e w2 ⟨A1, c1, rfl, ho⟩))
    go_ret2
    exact RetSS.of_own rfl (ho.rebase (by with_reducible (repeat (first | exact Ext.refl _ | apply Ext.drewN | apply Ext.drew | apply Ext.alloc | (refine Ext.set ?_ (by first | (simp; done) | (simp; omega) | omega) _) | (refine Ext.trans ?_ (by assumption))))))
  · rw [if_neg hr, if_neg hr]
    have h0 : (rcd xs t != 0) = true := by simpa using hr
    obtain ⟨r, hr⟩ : ∃ r, rcd xs t = r := ⟨_, rfl⟩
    rw [hr] at h0 ⊢
    have HC := Lib.hid hr
    clear hr
    go_enter Try.func22, Try.ntmps22
    go_wp2_with (first | (go_at_call 35; (with_reducible refine (l18Code_is _ _ _ xs _ _ (hI.ext (by with_reducible (repeat (first | exact Ext.refl _ | apply Ext.drewN | apply Ext.drew | apply Ext.alloc | (refine Ext.set ?_ (by first | (simp; done) | (simp; omega) | omega) _) | (refine Ext.trans ?_ (by assumption)))))) r HC).mono ?_); rintro e w1 ⟨rfl, hx⟩; have hz := hx.size; (try simp at hz); (try (have hq0 : w.heap.size < w1.heap.size := by omega)); (try (have hc0 : ∀ o, w1.cell? ⟨w.heap.size, o, none⟩ = _ := fun o => hx.cells.1 _ o (by first | (simp; done) | (simp; omega) | omega))); (try (have hf0 : ∀ o, w1.frozen? ⟨w.heap.size, o, none⟩ = _ := fun o => hx.cells.2 _ o (by first | (simp; done) | (simp; omega) | omega))); (try (have hq1 : w.heap.size + 1 < w1.heap.size := by omega)); (try (have hc1 : ∀ o, w1.cell? ⟨w.heap.size + 1, o, none⟩ = _ := fun o => hx.cells.1 _ o (by first | (simp; done) | (simp; omega) | omega))); (try (have hf1 : ∀ o, w1.frozen? ⟨w.heap.size + 1, o, none⟩ = _ := fun o => hx.cells.2 _ o (by first | (simp; done) | (simp; omega) | omega))); (try (have hq2 : w.heap.size + 2 < w1.heap.size := by omega)); (try (have hc2 : ∀ o, w1.cell? ⟨w.heap.size + 2, o, none⟩ = _ := fun o => hx.cells.1 _ o (by first | (simp; done) | (simp; omega) | omega))); (try (have hf2 : ∀ o, w1.frozen? ⟨w.heap.size + 2, o, none⟩ = _ := fun o => hx.cells.2 _ o (by first | (simp; done) | (simp; omega) | omega)))))
    go_ret2
    exact RetSS.of_nil rfl (by with_reducible (repeat (first | exact Ext.refl _ | apply Ext.drewN | apply Ext.drew | apply Ext.alloc | (refine Ext.set ?_ (by first | (simp; done) | (simp; omega) | omega) _) | (refine Ext.trans ?_ (by assumption)))))
end Go.Proofs.Ytendemigegjbfaa
