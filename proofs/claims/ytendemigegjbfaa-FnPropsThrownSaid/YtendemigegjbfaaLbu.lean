/- Drawn pictures: contracts of DrawColumnOf, DrawCheckLadder. No condition but the stated bounds. -/
import Derived.Test.YtendemigegjbfaaLbt
namespace Go.Proofs.Ytendemigegjbfaa
set_option linter.unusedVariables false
set_option linter.unusedSimpArgs false
open Go.RowKit Go.Joins

theorem Lns.strs {w0 W : World} {g n c : Nat} {B : Option Addr} {ss : List ByteArray} (h : Lns w0 W g (.slice B n c) n ss) (hn : n ≤ 70) : Strs W B n ss :=
  h.own.row.strs (by omega) (fun s hs => by have := h.sz s hs; omega)
theorem Lns.cap {w0 W : World} {g n c : Nat} {B : Option Addr} {ss : List ByteArray} (h : Lns w0 W g (.slice B n c) n ss) : n ≤ c := ownr_cap h.own.own
set_option maxHeartbeats 1000000 in
theorem DrawColumnOf_any (A : Option Addr) (n c : Nat) (xs : List Int) (w : World) (hB : Byts w A n xs) :
    Calls Try.prog 14 #[.slice A n c] w fun e w' => ∃ (B : Option Addr) (m d : Nat) (ss : List ByteArray) (q : Int), e = .returned (.tuple #[.slice B m d, .int .i64 q]) ∧ Strs w' B m ss ∧ (-10 ≤ q ∧ q ≤ 10) ∧ Ext w w' := by
  go_enter Try.func14, Try.ntmps14
  go_wp2_with fail
  (with_reducible refine (l00From_any A n c xs _ hB).mono ?_)
  rintro e w1 ⟨g, rfl, hs1, -⟩
  have hlt1 := hs1.lt
  go_wp2_with fail
  (with_reducible refine (l18Bent_any w _ g A n c xs 0 hs1 (by omega)).mono ?_)
  rintro e w2 ⟨B, m, d, ss, rfl, hl, hm, hs2⟩
  go_wp2_with fail
  (with_reducible refine (pick_any 6 w _ g A n c xs _ hs2 (by omega)).mono ?_)
  rintro e w3 ⟨p1, rfl, hp1, hs3, hg3⟩
  go_wp2_with fail
  (with_reducible refine (pick_any 12 w _ g A n c xs _ hs3 (by omega)).mono ?_)
  rintro e w4 ⟨p2, rfl, hp2, hs4, hg4⟩
  have hp11 : 0 ≤ p2 ∧ p2 ≤ 11 := by omega
  have hp6 : 0 ≤ p1 ∧ p1 ≤ 5 := by omega
  have HI : Hid (Strs w4 B m ss) := ((hl.past hg3 hs3.ext).past hg4 hs4.ext).strs hm
  have HX : Hid (Ext w w4) := hs4.ext
  clear hl hs1 hs2 hs3 hs4 hg3 hg4
  go_wp2
  exact bodyPost_ret (v := .tuple #[.slice B m d, .int .i64 (p1 - p2 / 11)]) (by simp [results, Try.results14, go_sem, *]) rfl ⟨B, m, d, ss, p1 - p2 / 11, rfl, HI.out, by omega, HX.out⟩
set_option maxHeartbeats 1000000 in
theorem DrawCheckLadder_any (A : Option Addr) (n c : Nat) (xs : List Int) (w : World) (hB : Byts w A n xs) :
    Calls Try.prog 26 #[.slice A n c] w fun e w' => ∃ (B : Option Addr) (m d : Nat) (ss : List ByteArray), e = .returned (.slice B m d) ∧ Strs w' B m ss ∧ m ≤ d ∧ Ext w w' := by
  go_enter Try.func26, Try.ntmps26
  go_wp2_with fail
  (with_reducible refine (l00From_any A n c xs _ hB).mono ?_)
  rintro e w1 ⟨g, rfl, hs1, -⟩
  go_wp2_with fail
  (with_reducible refine (l18Bent_any w _ g A n c xs 0 hs1 (by omega)).mono ?_)
  rintro e w2 ⟨B, m, d, ss, rfl, hl, hm, hs2⟩
  have HI : Hid (Strs w2 B m ss) := hl.strs hm
  have HC : Hid (m ≤ d) := hl.cap
  have HX : Hid (Ext w w2) := hs2.ext
  clear hl hs1 hs2
  go_wp2
  go_ret
  exact ⟨B, m, d, ss, rfl, HI.out, HC.out, HX.out⟩
end Go.Proofs.Ytendemigegjbfaa
