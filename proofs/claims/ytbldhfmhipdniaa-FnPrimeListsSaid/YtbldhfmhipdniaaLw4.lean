/- The reference's list of patterns: l12List, ListPatterns. No condition but the stated bounds. -/
import Derived.Test.YtbldhfmhipdniaaLw3
namespace Go.Proofs.Ytbldhfmhipdniaa
set_option linter.unusedVariables false
set_option linter.unusedSimpArgs false
open Go.ChangeShapes Go.WideShapes Go.ChangeAt Go.RowKit Go.Joins Go.Deep

/-- All patterns, and what the lists are. -/
def lst (a b c : Int) : List (List Int) := srch b.toNat c.toNat b.toNat (fun _ => false) [] (a * b)
def lstR (a b c : Int) : List (List Int) × Int := if (btw a 0 15 && btw b 1 6 && btw c 0 15) = true then (if 3000 < (lst a b c).length then ([], 5) else (lst a b c, 0)) else ([], 2)
/-- Rows of rows and a code are handed back, in new memory. -/
def RetLL (w : World) (L : List (List Int)) (code : Int) (e : Ending) (w' : World) : Prop :=
  ∃ A k, e = .returned (.tuple #[.slice A L.length k, .int .i64 code]) ∧ Ext w w' ∧ LRow w' w.heap.size w'.heap.size A L.length k L
theorem RetLL.bare {w w' : World} (h : Ext w w') (code : Int) : RetLL w [] code (.returned (.tuple #[.slice none 0 0, .int .i64 code])) w' := ⟨none, 0, rfl, h, LRow.nil _ _ _⟩
theorem infoBool6 : (Try.prog.info? 4).map (fun i => (i.zero, i.size, i.bytes)) = some (some (.bool false), 1, 1) := by kernel_rfl
theorem run_make_bools6 (n : Nat) (hn : n ≤ 1048576) (w : World) :
    (Instr.makeSlice 55 (.int .i64 (n : Int)) (.int .i64 (n : Int))).run Try.prog w = .ok (.slice (some ⟨w.heap.size, 0, none⟩) n n) (w.alloc (.cells (madeCells #[.bool false] n) 4)) := by
  obtain ⟨i, hi, hzz⟩ := Option.map_eq_some_iff.1 infoBool6
  simp only [Prod.mk.injEq] at hzz
  obtain ⟨hz, hs, hb⟩ := hzz
  have hr := run_make (P := Try.prog) w 55 4 i _ Try.underlying55 hi hz .i64 .i64 n n (by omega) (Int.le_refl _) (by rw [hb]; omega) (by omega)
  simp only [Int.toNat_natCast, hs, Nat.mul_one] at hr
  exact hr
theorem made_bools (n : Nat) : (madeCells #[.bool false] n).toList = usd n (fun _ => false) := by
  apply List.ext_getElem?
  intro i
  by_cases hi : i < n
  · rw [usd_get _ hi]; simp [madeCells, hi, Nat.mod_one]
  · rw [List.getElem?_eq_none (by simp [madeCells]; omega), List.getElem?_eq_none (by rw [usd_len]; omega)]
/-- The table, fresh. -/
theorem usd_made {w w' : World} {b n : Nat} (hb : w'.heap[b]? = some (.cells (madeCells #[.bool false] n) 4)) (hn : n ≤ 1000) {lo hi : Nat} (h1 : lo ≤ b) (h2 : b < hi) : RowG w' lo hi 4 1 (some ⟨b, 0, none⟩) n n (usd n fun _ => false) := by
  refine ⟨⟨by rw [usd_len, Nat.mul_one], .inr ⟨b, n, _, rfl, h1, hb, Nat.le_refl _, by unfold maxLen; omega, ?_, ?_⟩⟩, fun a e => by cases e; exact h2⟩
  · rw [← Array.length_toList, made_bools, usd_len, Nat.mul_one]
  · rw [made_bools, List.take_of_length_le (by rw [usd_len]; omega)]
theorem walk12_any (n h : Nat) (hn : 1 ≤ n ∧ n ≤ 6) (hh : h ≤ 15) : ∀ (d : Nat) (w0 w : World) (g ub : Nat) (U : Nat → Bool) (pre : List Int) (l : Int) (out : List (List Int)) (b : Int), b = (n : Int) - d → pre.length + d = n → (∀ y ∈ pre, 0 ≤ y ∧ y ≤ 15) → (0 ≤ l ∧ l ≤ 1000) → out.length ≤ 3000 → L12 w0 w g ub n h U pre l out false →
    Calls Try.prog 53 #[.pointer (some ⟨g, 0, none⟩), .int .i64 b] w (Wlk w0 g ub n h U pre l (out ++ srch n h d U pre l))
  | 0 => fun w0 w g ub U pre l out b hb hp hpb hl ho hS => by
    obtain rfl : b = (n : Int) := by omega
    exact walk12_last n h hn hh w0 w g ub U pre l out (by omega) hpb hl ho hS
  | d + 1 => fun w0 w g ub U pre l out b hb hp hpb hl ho hS => walk12_step n h d hn hh (walk12_any n h hn hh d) w0 w g ub U pre l out b hb hp hpb hl ho hS
theorem L12.start (w : World) (n h : Nat) (l : Int) (hn : n ≤ 1000) : L12 w (((w.alloc (.cells (madeCells #[.bool false] n) 4)).alloc (.cells #[] 30)).alloc (.cells #[.int .i64 n, .int .i64 h, .int .i64 l, .slice (some ⟨w.heap.size, 0, none⟩) n n, .slice none 0 0, .slice (some ⟨w.heap.size + 1, 0, none⟩) 0 0, .bool false] 57)) (w.heap.size + 2) w.heap.size n h (fun _ => false) [] l [] false := by
  have b0 : (((w.alloc (.cells (madeCells #[.bool false] n) 4)).alloc (.cells #[] 30)).alloc (.cells #[.int .i64 n, .int .i64 h, .int .i64 l, .slice (some ⟨w.heap.size, 0, none⟩) n n, .slice none 0 0, .slice (some ⟨w.heap.size + 1, 0, none⟩) 0 0, .bool false] 57)).heap[w.heap.size]? = some (.cells (madeCells #[.bool false] n) 4) := by
    rw [Below.heap_alloc _ _ _ (by simp; omega), Below.heap_alloc _ _ _ (by simp)]
    exact heap_alloc_new _ _
  have b1 : (((w.alloc (.cells (madeCells #[.bool false] n) 4)).alloc (.cells #[] 30)).alloc (.cells #[.int .i64 n, .int .i64 h, .int .i64 l, .slice (some ⟨w.heap.size, 0, none⟩) n n, .slice none 0 0, .slice (some ⟨w.heap.size + 1, 0, none⟩) 0 0, .bool false] 57)).heap[w.heap.size + 1]? = some (.cells #[] 30) := by
    rw [Below.heap_alloc _ _ _ (by simp)]
    have h := heap_alloc_new (w.alloc (.cells (madeCells #[.bool false] n) 4)) (.cells #[] 30)
    rwa [show (w.alloc (.cells (madeCells #[.bool false] n) 4)).heap.size = w.heap.size + 1 by simp] at h
  refine ⟨none, 0, some ⟨w.heap.size + 1, 0, none⟩, 0, ⟨(((Ext.refl _).alloc _).alloc _).alloc _, by simp, usd_made (w := w) b0 hn (Nat.le_refl _) (by simp; omega), by omega, ⟨⟨by simp, .inl ⟨rfl, rfl⟩⟩, (fun a e => by cases e)⟩, (fun b e => by cases e), fun _ => (none, 0), ⟨⟨[], ⟨⟨by simp, .inr ⟨w.heap.size + 1, 0, #[], rfl, by omega, b1, Nat.le_refl _, by simp [maxLen], by simp, by simp⟩⟩, (fun a e => by cases e; simp)⟩, (fun i hi => by simp at hi)⟩, (fun i hi => by simp at hi), (fun i j hi => by simp at hi), (fun i hi => by simp at hi)⟩, (fun i hi => by simp at hi), fun b e => ?_⟩, ⟨by go_simp, by go_simp, by go_simp, by go_simp, by go_simp, by go_simp, by go_simp, fun o => by go_simp⟩⟩
  simp at e
  exact ⟨by omega, by omega, fun e2 => by cases e2⟩
set_option maxHeartbeats 2000000 in
theorem l12List_any (a b c : Int) (w : World) : Calls Try.prog 31 #[.int .i64 a, .int .i64 b, .int .i64 c] w (RetLL w (lstR a b c).1 (lstR a b c).2) := by
  by_cases hc : (btw a 0 15 && btw b 1 6 && btw c 0 15) = true
  · have hR : lstR a b c = (if 3000 < (lst a b c).length then ([], 5) else (lst a b c, 0)) := if_pos hc
    rw [Bool.and_eq_true, Bool.and_eq_true] at hc
    obtain ⟨⟨h1, h2⟩, h3⟩ := hc
    have H1 := Lib.hid h1
    have H2 := Lib.hid h2
    have H3 := Lib.hid h3
    rw [btw_iff] at h1 h2 h3
    obtain ⟨p, rfl⟩ : ∃ p : Nat, (p : Int) = a := ⟨a.toNat, by omega⟩
    obtain ⟨n, rfl⟩ : ∃ n : Nat, (n : Int) = b := ⟨b.toNat, by omega⟩
    obtain ⟨h, rfl⟩ : ∃ h : Nat, (h : Int) = c := ⟨c.toNat, by omega⟩
    obtain ⟨l, hl⟩ : ∃ l : Nat, p * n = l := ⟨_, rfl⟩
    have hl2 : (p : Int) * n = l := by rw [← hl]; exact (Int.natCast_mul p n).symm
    have hl3 : l ≤ 15 * 6 := by rw [← hl]; exact Nat.mul_le_mul (by omega) (by omega)
    have hw : IntKind.i64.wrap ((p : Int) * n) = l := by rw [hl2]; exact IntWalk.i64_in _ (by omega)
    have hL : lst p n h = srch n h n (fun _ => false) [] l := by unfold lst; rw [hl2]; rfl
    have HR : Hid (lstR p n h = if 3000 < (srch n h n (fun _ => false) [] (l : Int)).length then ([], 5) else (srch n h n (fun _ => false) [] (l : Int), 0)) := by show _ = _; rw [hR, hL]
    clear hR hL hl hl2
    have hmk := fun W => run_make_bools6 n (by omega) W
    have HS := Lib.hid (L12.start w n h l (by omega))
    go_enter Try.func31, Try.ntmps31
    go_wp2_with (first | (go_at_call 52; (with_reducible refine (l00In_is _ _ _ _ H1.out _).mono ?_); rintro e w' ⟨rfl, rfl⟩) | (go_at_call 52; (with_reducible refine (l00In_is _ _ _ _ H2.out _).mono ?_); rintro e w' ⟨rfl, rfl⟩) | (go_at_call 52; (with_reducible refine (l00In_is _ _ _ _ H3.out _).mono ?_); rintro e w' ⟨rfl, rfl⟩) | fail)
    (with_reducible refine (walk12_any n h (by omega) (by omega) n w _ (w.heap.size + 2) w.heap.size (fun _ => false) [] l [] 0 (by omega) (by simp) (by simp) (by omega) (by simp) HS.out).mono ?_)
    rintro e w2 ⟨rfl, hL2⟩
    rw [List.nil_append] at hL2
    obtain ⟨At, ct, Ao, co, hst, hC⟩ := hL2
    have HST := Lib.hid hst
    obtain ⟨q0, q1, q2, q3, q4, q5, q6, qf⟩ := hC
    clear hst qf hmk
    by_cases hf : 3000 < (srch n h n (fun _ => false) [] (l : Int)).length
    · have HE : Hid (lstR p n h = ([], 5)) := by show _ = _; rw [HR.out, if_pos hf]
      rw [decide_eq_true hf] at q6
      clear hf
      go_wp2
      go_ret2
      rw [HE.out]
      exact RetLL.bare HST.out.ext 5
    · have HE : Hid (lstR p n h = (srch n h n (fun _ => false) [] (l : Int), 0)) := by show _ = _; rw [HR.out, if_neg hf]
      rw [decide_eq_false hf] at q6
      rw [List.take_of_length_le (by omega)] at q5
      have HLE : Hid ((srch n h n (fun _ => false) [] (l : Int)).take 3000 = srch n h n (fun _ => false) [] (l : Int)) := List.take_of_length_le (by omega)
      clear hf
      go_wp2
      go_ret2
      rw [HE.out]
      have hst := HST.out
      rw [HLE.out] at hst
      obtain ⟨H, hF, _⟩ := hst.outs
      exact ⟨_, _, rfl, hst.ext, rfl, H, hF⟩
  · have hR : lstR a b c = ([], 2) := if_neg hc
    have HR := Lib.hid hR
    clear hR
    obtain ⟨v1, e1⟩ : ∃ v, btw a 0 15 = v := ⟨_, rfl⟩
    obtain ⟨v2, e2⟩ : ∃ v, btw b 1 6 = v := ⟨_, rfl⟩
    obtain ⟨v3, e3⟩ : ∃ v, btw c 0 15 = v := ⟨_, rfl⟩
    rw [e1, e2, e3] at hc
    have H1 := Lib.hid e1
    have H2 := Lib.hid e2
    have H3 := Lib.hid e3
    clear e1 e2 e3
    cases v1 <;> cases v2 <;> cases v3 <;> simp at hc
    all_goals
      go_enter Try.func31, Try.ntmps31
      go_wp2_with (first | (go_at_call 52; (with_reducible refine (l00In_is _ _ _ _ H1.out _).mono ?_); rintro e w' ⟨rfl, rfl⟩) | (go_at_call 52; (with_reducible refine (l00In_is _ _ _ _ H2.out _).mono ?_); rintro e w' ⟨rfl, rfl⟩) | (go_at_call 52; (with_reducible refine (l00In_is _ _ _ _ H3.out _).mono ?_); rintro e w' ⟨rfl, rfl⟩) | fail)
      go_ret2
      rw [HR.out]
      exact RetLL.bare (Ext.refl _) 2
theorem specListPatterns_any (a b c : Int) (w : World) : Calls Try.prog 17 #[.int .i64 a, .int .i64 b, .int .i64 c] w (RetLL w (lstR a b c).1 (lstR a b c).2) := by
  go_enter Try.func17, Try.ntmps17
  go_wp2_with fail
  (with_reducible refine (l12List_any a b c _).mono ?_)
  rintro e w2 ⟨A, k, rfl, hx, hr⟩
  have HX : Hid (RetLL w (lstR a b c).1 (lstR a b c).2 (.returned (.tuple #[.slice A (lstR a b c).1.length k, .int .i64 (lstR a b c).2])) w2) := ⟨A, k, rfl, hx, hr⟩
  clear hr hx
  go_wp2
  go_ret2
  exact HX.out
end Go.Proofs.Ytbldhfmhipdniaa
