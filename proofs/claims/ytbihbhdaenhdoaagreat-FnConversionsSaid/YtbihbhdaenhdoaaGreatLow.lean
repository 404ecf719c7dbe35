/- A copy of numbers by the reference. No condition but the stated bounds. -/
import Derived.Test.YtbihbhdaenhdoaaGreatApi
namespace Go.Proofs.YtbihbhdaenhdoaaGreat
set_option linter.unusedVariables false
set_option linter.unusedSimpArgs false
open Go.RowKit Go.Joins

theorem l00Own_any (A : Option Addr) (n c : Nat) (xs : List Int) (w : World) (hI : Ints w A n xs) (hn : n ≤ 1000000) :
    Calls Tryz.prog 70 #[.slice A n c] w fun e w' => ∃ A1 c1, e = .returned (.slice A1 n c1) ∧ OwnR 2 1 w w' (.slice A1 n c1) n xs := by
  have HT0 : Hid (∀ (wr : World) (v : Value), OwnR 2 1 w wr v n xs → ∃ A1 c1, Ending.returned v = .returned (.slice A1 n c1) ∧ OwnR 2 1 w wr (.slice A1 n c1) n xs) := by
    intro wr v ho
    obtain ⟨A1, c1, rfl⟩ := ho.forms
    exact ⟨A1, c1, rfl, ho⟩
  have h0 := ownR_empty (Ext.refl w) 2 1
  have hE := Lib.hid h0
  clear h0
  go_enter Tryz.func70, Tryz.ntmps70
  go_wp2_with (at_builtin; refine appI rfl _ _ rfl rfl hE.out.own (by simp) rfl (hI.ext ((Ext.refl _).alloc _)) (by omega) ?_; intro v' w3 ho' hg' hat')
  go_ret
  refine HT0.out _ _ ⟨by simpa using ho', (hE.out.ext).grown hg' (fun k hk => by cases hk; exact Nat.le_refl _)⟩
end Go.Proofs.YtbihbhdaenhdoaaGreat
