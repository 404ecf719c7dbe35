/- Draws of ladders: contracts of l18Beats, l18Ask, DrawThrownProps, DrawLadderOf, DrawPropBeats, DrawHandLadder. No condition but the stated bounds. -/
import Derived.Test.YtendemigegjbfaaDrv
import Derived.Test.YtendemigegjbfaaDrh
namespace Go.Proofs.Ytendemigegjbfaa
set_option linter.unusedVariables false
set_option linter.unusedSimpArgs false
open Go.RowKit Go.Joins

theorem ints_newL (w : World) (ys : List Int) (t : TypeId) (hn : ys.length ≤ 1000) (hb : ∀ y ∈ ys, -9223372036854775808 ≤ y ∧ y ≤ 9223372036854775807) : Ints (w.alloc (.cells (ys.map (Value.int .i64)).toArray t)) (some ⟨w.heap.size, 0, none⟩) ys.length ys :=
  ⟨rfl, by omega, hb, fun _ => ⟨w.heap.size, 0, rfl, by simp, fun i hi => by
    rw [Nat.zero_add]
    refine (cell_of_block (heap_alloc_new w _) i).trans ?_
    simp [List.getElem?_eq_getElem hi]⟩⟩
set_option maxHeartbeats 1000000 in
theorem l18Beats_any (w0 w : World) (g : Nat) (A : Option Addr) (n c : Nat) (xs : List Int) (top : Nat) (h : Srd w0 w g A n c xs top) (ht : top ≤ 900000000) :
    Calls Try.prog 42 #[.pointer (some ⟨g, 0, none⟩)] w fun e w' => ∃ t : Int, e = .returned (.int .i64 t) ∧ (-1 ≤ t ∧ t ≤ 61) ∧ Srd w0 w' g A n c xs (top + 4) ∧ w.grownBy w' (some g) := by
  go_enter Try.func42, Try.ntmps42
  go_wp2_with fail
  (with_reducible refine (one_any 12 w0 _ g A n c xs top h (by omega)).mono ?_)
  rintro e w1 ⟨b, rfl, hs1, hg1⟩
  cases b
  · go_wp2_with fail
    (with_reducible refine (pick_any 20 w0 _ g A n c xs _ hs1 (by omega)).mono ?_)
    rintro e w2 ⟨t, rfl, ht2, hs2, hg2⟩
    go_wp2
    go_ret
    exact ⟨t, rfl, by omega, hs2.more (by omega), grown_trans hg1 hg2⟩
  · have hlt1 := hs1.lt
    go_wp2_with fail
    (with_reducible refine (among_any _ 4 _ [-1, 0, 60, 61] w0 _ g A n c xs _ (hs1.after (by with_reducible (repeat (first | exact Ext.refl _ | apply Ext.drewN | apply Ext.drew | apply Ext.alloc | (refine Ext.set ?_ (by first | (simp; done) | (simp; omega) | omega) _) | (refine Ext.trans ?_ (by assumption)))))) (by omega) (ints_newL w1 [-1, 0, 60, 61] _ (by simp) (by simp)) (by omega) (by rintro a e; cases e; show w1.heap.size ≠ g; omega)).mono ?_)
    rintro e w2 ⟨t, rfl, ht2, hs2, hg2⟩
    have htb : -1 ≤ t ∧ t ≤ 61 := by simp at ht2; omega
    clear ht2
    go_wp2
    go_ret
    exact ⟨t, rfl, htb, hs2.more (by omega), grown_trans (grown_new hg1 _) hg2⟩
/-- A drawn list of throws and a number of beats. -/
def PatB (w : World) (e : Ending) (w' : World) : Prop :=
  ∃ (B : Option Addr) (m d : Nat) (ys : List Int) (t : Int), e = .returned (.tuple #[.slice B m d, .int .i64 t]) ∧ Ints w' B m ys ∧ (-1 ≤ t ∧ t ≤ 61) ∧ Ext w w'
set_option maxHeartbeats 1000000 in
theorem l18Ask_any (A : Option Addr) (n c : Nat) (xs : List Int) (w : World) (hB : Byts w A n xs) :
    Calls Try.prog 32 #[.slice A n c] w (PatB w) := by
  go_enter Try.func32, Try.ntmps32
  go_wp2_with fail
  (with_reducible refine (l00From_any A n c xs _ hB).mono ?_)
  rintro e w1 ⟨g, rfl, hs1, -⟩
  go_wp2_with fail
  (with_reducible refine (l02Bent_any w _ g A n c xs 0 hs1 (by omega)).mono ?_)
  rintro e w2 ⟨B, m, d, ys, rfl, hown, hm, hbd, hs2, hg2⟩
  have hlt1 := hs1.lt
  go_wp2_with fail
  (with_reducible refine (l18Beats_any w _ g A n c xs _ hs2 (by omega)).mono ?_)
  rintro e w3 ⟨t, rfl, ht, hs3, hg3⟩
  have HI : Hid (Ints w3 B m ys) := own_ints (own_keep hown hg3 hlt1) (by omega) (fun y hy => by have := hbd y hy; omega)
  have HX : Hid (Ext w w3) := hs3.ext
  clear hown hbd hs1 hs2 hs3 hg2 hg3
  go_wp2
  exact bodyPost_ret (v := .tuple #[.slice B m d, .int .i64 t]) (by simp [results, Try.results32, go_sem, *]) rfl ⟨B, m, d, ys, t, rfl, HI.out, ht, HX.out⟩
theorem DrawThrownProps_any (A : Option Addr) (n c : Nat) (xs : List Int) (w : World) (hB : Byts w A n xs) :
    Calls Try.prog 6 #[.slice A n c] w (PatB w) := by
  go_enter Try.func6, Try.ntmps6
  go_wp2_with fail
  (with_reducible refine (l18Ask_any A n c xs _ hB).mono ?_)
  rintro e w1 ⟨B, m, d, ys, t, rfl, hI, ht, hx⟩
  have HI := Lib.hid hI
  have HX := Lib.hid hx
  clear hI hx
  go_wp2
  exact bodyPost_ret (v := .tuple #[.slice B m d, .int .i64 t]) (by simp [results, Try.results6, go_sem, *]) rfl ⟨B, m, d, ys, t, rfl, HI.out, ht, HX.out⟩
theorem DrawLadderOf_any (A : Option Addr) (n c : Nat) (xs : List Int) (w : World) (hB : Byts w A n xs) :
    Calls Try.prog 20 #[.slice A n c] w (PatB w) := by
  go_enter Try.func20, Try.ntmps20
  go_wp2_with fail
  (with_reducible refine (l18Ask_any A n c xs _ hB).mono ?_)
  rintro e w1 ⟨B, m, d, ys, t, rfl, hI, ht, hx⟩
  have HI := Lib.hid hI
  have HX := Lib.hid hx
  clear hI hx
  go_wp2
  exact bodyPost_ret (v := .tuple #[.slice B m d, .int .i64 t]) (by simp [results, Try.results20, go_sem, *]) rfl ⟨B, m, d, ys, t, rfl, HI.out, ht, HX.out⟩
set_option maxHeartbeats 1000000 in
theorem DrawPropBeats_any (A : Option Addr) (n c : Nat) (xs : List Int) (w : World) (hB : Byts w A n xs) :
    Calls Try.prog 11 #[.slice A n c] w fun e w' => ∃ (B : Option Addr) (m d : Nat) (ys : List Int) (p t : Int), e = .returned (.tuple #[.slice B m d, .int .i64 p, .int .i64 t]) ∧ Ints w' B m ys ∧ (-10 ≤ p ∧ p ≤ 10) ∧ (-1 ≤ t ∧ t ≤ 61) ∧ Ext w w' := by
  go_enter Try.func11, Try.ntmps11
  go_wp2_with fail
  (with_reducible refine (l00From_any A n c xs _ hB).mono ?_)
  rintro e w1 ⟨g, rfl, hs1, -⟩
  have hlt1 := hs1.lt
  go_wp2_with fail
  (with_reducible refine (l02Bent_any w _ g A n c xs 0 hs1 (by omega)).mono ?_)
  rintro e w2 ⟨B, m, d, ys, rfl, hown, hm, hbd, hs2, hg2⟩
  go_wp2_with fail
  (with_reducible refine (pick_any 7 w _ g A n c xs _ hs2 (by omega)).mono ?_)
  rintro e w3 ⟨p1, rfl, hp1, hs3, hg3⟩
  go_wp2_with fail
  (with_reducible refine (pick_any 12 w _ g A n c xs _ hs3 (by omega)).mono ?_)
  rintro e w4 ⟨p2, rfl, hp2, hs4, hg4⟩
  have hp11 : 0 ≤ p2 ∧ p2 ≤ 11 := by omega
  have hp6 : 0 ≤ p1 ∧ p1 ≤ 6 := by omega
  go_wp2_with fail
  (with_reducible refine (l18Beats_any w _ g A n c xs _ hs4 (by omega)).mono ?_)
  rintro e w5 ⟨t, rfl, ht, hs5, hg5⟩
  have HI : Hid (Ints w5 B m ys) := own_ints (own_keep (own_keep (own_keep hown hg3 hlt1) hg4 hlt1) hg5 hlt1) (by omega) (fun y hy => by have := hbd y hy; omega)
  have HX : Hid (Ext w w5) := hs5.ext
  clear hown hbd hs1 hs2 hs3 hs4 hs5 hg2 hg3 hg4 hg5
  go_wp2
  exact bodyPost_ret (v := .tuple #[.slice B m d, .int .i64 (p1 - p2 / 11), .int .i64 t]) (by simp [results, Try.results11, go_sem, *]) rfl ⟨B, m, d, ys, p1 - p2 / 11, t, rfl, HI.out, by omega, ht, HX.out⟩
set_option maxHeartbeats 1000000 in
theorem DrawHandLadder_any (A : Option Addr) (n c : Nat) (xs : List Int) (w : World) (hB : Byts w A n xs) :
    Calls Try.prog 23 #[.slice A n c] w fun e w' => ∃ (B : Option Addr) (m d : Nat) (ys : List Int) (C : Option Addr) (l k : Nat) (os : List Int) (t : Int), e = .returned (.tuple #[.slice B m d, .slice C l k, .int .i64 t]) ∧ Ints w' B m ys ∧ Ints w' C l os ∧ (-1 ≤ t ∧ t ≤ 61) ∧ Ext w w' := by
  go_enter Try.func23, Try.ntmps23
  go_wp2_with fail
  (with_reducible refine (l00From_any A n c xs _ hB).mono ?_)
  rintro e w1 ⟨g, rfl, hs1, -⟩
  have hlt1 := hs1.lt
  go_wp2_with fail
  (with_reducible refine (l02Bent_any w _ g A n c xs 0 hs1 (by omega)).mono ?_)
  rintro e w2 ⟨B, m, d, ys, rfl, hown, hm, hbd, hs2, hg2⟩
  have hz2 := hg2.size
  go_wp2_with fail
  (with_reducible refine (l14Bent_any w _ g A n c xs _ hs2 (by omega)).mono ?_)
  rintro e w3 ⟨C, l, k, os, rfl, hown3, hm3, hbd3, hs3, hg3⟩
  go_wp2_with fail
  (with_reducible refine (l18Beats_any w _ g A n c xs _ hs3 (by omega)).mono ?_)
  rintro e w5 ⟨t, rfl, ht, hs5, hg5⟩
  have HI : Hid (Ints w5 B m ys) := own_ints (own_keep (own_keep hown hg3 hlt1) hg5 hlt1) (by omega) (fun y hy => by have := hbd y hy; omega)
  have HJ : Hid (Ints w5 C l os) := own_ints (own_keep hown3 hg5 (by omega)) (by omega) (fun y hy => by have := hbd3 y hy; omega)
  have HX : Hid (Ext w w5) := hs5.ext
  clear hown hbd hown3 hbd3 hs1 hs2 hs3 hs5 hg2 hg3 hg5
  go_wp2
  exact bodyPost_ret (v := .tuple #[.slice B m d, .slice C l k, .int .i64 t]) (by simp [results, Try.results23, go_sem, *]) rfl ⟨B, m, d, ys, C, l, k, os, t, rfl, HI.out, HJ.out, ht, HX.out⟩
end Go.Proofs.Ytendemigegjbfaa
