/- Routines: copies by the program and the reference. No condition but the stated bounds. -/
import Derived.Test.YtinkaglngblddaaDoorRtm3
namespace Go.Proofs.YtinkaglngblddaaDoor
set_option linter.unusedVariables false
set_option linter.unusedSimpArgs false
open Go.ChangeShapes Go.WideShapes Go.ChangeAt Go.RowKit Go.Joins Go.Deep

theorem take_push {ps : List (List Int × Int)} {k : Nat} (h : k < ps.length) : ps.take k ++ [(pt ps k, tm ps k)] = ps.take (k + 1) := by
  have e : (pt ps k, tm ps k) = ps[k] := by simp [pt, tm, h]
  rw [e, List.take_add_one, List.getElem?_eq_getElem h]
  rfl
theorem Outs.next {w wr W w3 : World} {b lo k : Nat} {h : Int} {qs : List (List Int × Int)} {A : Option Addr} {c : Nat} (hx : Ext w wr) (hO : Outs wr b lo h k qs A c) (hE : Ext wr W) (hg : W.grownBy w3 (A.map (·.block))) (hlo : w.heap.size ≤ b) (v : Value) :
    Ext w (w3.setCell ⟨b, 1, none⟩ v) ∧ ∀ b', b' < lo → b' ≠ b → (∀ o, (w3.setCell ⟨b, 1, none⟩ v).cell? ⟨b', o, none⟩ = wr.cell? ⟨b', o, none⟩) ∧ ∀ o, (w3.setCell ⟨b, 1, none⟩ v).frozen? ⟨b', o, none⟩ = wr.frozen? ⟨b', o, none⟩ := by
  have hlt := hO.lt
  have hle := hO.le
  have hz := hE.size
  have hrb : ∀ g, A.map (·.block) = some g → lo ≤ g := fun g hg' => by
    obtain ⟨H, hF⟩ := hO.P.rows
    obtain ⟨cs, hr, _⟩ := hF.row
    exact (hr.row_bd g hg').1
  refine ⟨((hx.trans hE).grown hg (fun j hj => by have := hrb j hj; omega)).set hlo _, fun b' hb' hne => ?_⟩
  have hb : w3.heap[b']? = W.heap[b']? := hg.block b' (by omega) (fun e => by have := hrb b' e.symm; omega)
  refine ⟨fun o => ?_, fun o => ?_⟩
  · rw [World.cell?_setCell_other _ _ _ _ (fun e => by injection e with e1 _ _; exact hne e1.symm), World.cell?_of_block hb]
    exact hE.cells.1 _ o (by omega)
  · have e1 : (w3.setCell ⟨b, 1, none⟩ v).frozen? ⟨b', o, none⟩ = w3.frozen? ⟨b', o, none⟩ := by simp
    rw [e1, ← hE.cells.2 _ o (by omega)]
    unfold World.frozen?
    rw [hb]
end Go.Proofs.YtinkaglngblddaaDoor
