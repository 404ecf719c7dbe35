/- The statement of laws.FnExactAppendPart: for every input the call returns true and its arguments read as before. No condition. -/
import Derived.Test.YtignmgeiijccoaaApnW
namespace Go.Proofs.Ytignmgeiijccoaa
open Go.ChangeShapes Go.WideShapes Go.ChangeAt Go.RowKit Go.Joins
namespace fnExactAppendPart
set_option linter.unusedVariables false
set_option maxRecDepth 100000 in
theorem lifted (os : Os) (started : os.Started) (H : Type) (enc : TypeId × Value → H) :
    ReturnsInHanded {} Try.checked os 6 .any (Rows.fnExactAppendPartSpec.pre6 enc Try.prog Try.f6 Rows.fnExactAppendPartRow.domain false) (Rows.fnExactAppendPartSpec.post enc Try.prog Try.f6 false true false false) := by
  refine returnsInHanded_of_change (C := Try.checked) own started (by kernel_rfl) Try.func6
    (ChangeSpec.witness6 (enc := enc) (C := Try.checked) false ⟨#[], #[.agg #[.int .i64 0, .slice none 0 0], .agg #[.slice none 0 0, .int .i64 0]], []⟩ 8 (by kernel_rfl) (by kernel_rfl) (by kernel_rfl) (by kernel_rfl)) ?_
  intro W base args ds gs before hval0 hW hcnd _
  have hval : ∀ (j : Nat) t v, Try.f6.params[j]? = some t → args[j]? = some v → Value.okWide Try.prog W .any base t v := hval0
  have hW' := hW
  obtain ⟨p, q, hA0, hV, rfl, hfz, hnd⟩ := hW
  have hA : DataW.TrodAll enc Try.prog W 0 (fun _ => true) true Try.f6.params.toList args.toList ds p := hA0
  rw [Try.params6] at hA hval
  obtain ⟨v0, vs0, d0, ds0, p0, q0, hargs, rfl, rfl, h0, r0⟩ := trodAll_cons hA
  obtain ⟨v1, vs1, d1, ds1, p1, q1, rfl, rfl, rfl, h1, r1⟩ := trodAll_cons r0
  obtain ⟨rfl, rfl, rfl⟩ := trodAll_nil r1
  obtain rfl : args = #[v0, v1] := by cases args; simp_all
  obtain ⟨rfl, rfl⟩ := trodVars_none hV
  obtain ⟨c00, c01, y00, y01, m0, rfl, rfl, rfl, hy00, hy01⟩ := open_agg2 Try.underlying24 (by kernel_rfl) (by kernel_rfl) (hval 0 24 v0 rfl rfl) h0
  obtain ⟨a00, e00, er00, w00⟩ := DataW.trod_int Try.underlying2 hy00
  obtain rfl : c00 = .int .i64 a00 := by simpa using e00
  obtain ⟨A0, n0, c0, ps0, rfl, I0⟩ := parts_of_trod Try.underlying22 Try.underlying39 (by kernel_rfl) (by kernel_rfl) rfl rfl Try.underlying37 Try.underlying2 (by kernel_rfl) Try.underlying2 (fun _ => rfl) hy01
  obtain ⟨c10, c11, y10, y11, m1, rfl, rfl, rfl, hy10, hy11⟩ := open_agg2 Try.underlying39 (by kernel_rfl) (by kernel_rfl) (hval 1 39 v1 rfl rfl) h1
  obtain ⟨A1, n1, c1, xs1, rfl, I1⟩ := ints_of_trod Try.underlying37 Try.underlying2 (by kernel_rfl) (fun _ => rfl) hy10
  obtain ⟨a11, e11, er11, w11⟩ := DataW.trod_int Try.underlying2 hy11
  obtain rfl : c11 = .int .i64 a11 := by simpa using e11
  have b11 := bounds_i64 w11
  clear hA0 hval0 hval
  refine (walk A0 n0 c0 ps0 a00 A1 n1 c1 xs1 a11 b11 W I0 I1).mono fun e W' ⟨he, hg⟩ => ?_
  subst he
  exact ⟨_, rfl, law_post laidOut (by intro t ht; rw [Try.params6] at ht; revert t; exact of_decide_eq_true (by kernel_rfl)) (by kernel_rfl) Try.underlying4 rfl rfl (by simpa using hW') hg⟩

theorem over : Rows.fnExactAppendPartRow.holds Try.pinned (OpenSpec.ofChange Rows.fnExactAppendPartSpec) :=
  OpenClaim.holds_of_wide 6 Try.f6 rfl rfl rfl rfl rfl rfl rfl ⟨rfl, rfl, rfl, rfl, rfl⟩ rfl rfl rfl rfl rfl (by kernel_rfl) Try.func6 (by kernel_rfl)
    (of_decide_eq_true (by kernel_rfl)) (by unfold Func.isWrapper; rw [if_neg (of_decide_eq_false (by kernel_rfl))]; exact ⟨rfl, rfl⟩)
    (fun os started H enc _ => lifted os started H enc)

theorem proved : Rows.FnExactAppendPartSaid :=
  over
#print axioms proved
end fnExactAppendPart
end Go.Proofs.Ytignmgeiijccoaa
