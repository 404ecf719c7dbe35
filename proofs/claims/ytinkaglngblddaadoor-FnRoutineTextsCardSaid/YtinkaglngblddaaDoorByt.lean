/- Rows of bytes that a call makes, and strings made of them. Plain lemmas. -/
import Derived.Test.YtinkaglngblddaaDoorRowG
import Derived.Lib.SlBytesRow
namespace Go.Proofs.YtinkaglngblddaaDoor
set_option linter.unusedVariables false
set_option linter.unusedSimpArgs false
open Go.RowKit Go.Joins

/-- Bytes as cells. -/
def bcs (l : List UInt8) : List Value := l.map fun b => Value.int .u8 (b.toNat : Int)
theorem bcs_append (a b : List UInt8) : bcs (a ++ b) = bcs a ++ bcs b := by simp [bcs]
theorem bcs_len (l : List UInt8) : (bcs l).length = l.length := by simp [bcs]
theorem bcs_get {l : List UInt8} {i : Nat} (h : i < l.length) : (bcs l)[i]? = some (.int .u8 (l[i].toNat : Int)) := by simp [bcs, h]
theorem bcs_one (l : List UInt8) : ∀ u ∈ bcs l, u.oneCell' = true := by
  intro u hu
  simp only [bcs, List.mem_map] at hu
  obtain ⟨b, _, rfl⟩ := hu
  rfl
theorem infoByte : (Tryd.prog.info? 5).map (fun i => (i.zero, i.size, i.bytes)) = some (some (.int .u8 0), 1, 1) := by kernel_rfl
theorem elByte : ElG Tryd.prog 5 1 1 := elG infoByte rfl
/-- 'string(b)' of a row of bytes. -/
theorem conv_bytes {w w' : World} {v : Value} {l : List UInt8} {n : Nat} (h : OwnG 5 1 w w' v n (bcs l)) (hn : 0 < n) : ∃ g c, v = .slice (some ⟨g, 0, none⟩) n c ∧ (Go.convert 37 9 (.slice (some ⟨g, 0, none⟩) n c)).run Tryd.prog w' = .ok (.string ⟨l.toArray⟩) w' := by
  have hl : l.length = n := by have := h.own.1; rw [bcs_len] at this; omega
  obtain ⟨g, c, hv, _, _⟩ := World.ownsRow.form h.own hn
  subst hv
  refine ⟨g, c, rfl, ?_⟩
  have hc : Go.Lib.Bytes w' g 0 ⟨l.toArray⟩ := fun i hi => by
    have hi' : i < l.length := hi
    rw [Nat.zero_add, World.ownsRow.cellAt h.own i (by omega), bcs_get hi']
    rfl
  have := Go.Lib.run_convert_whole (P := Tryd.prog) w' 37 5 9 Tryd.underlying37 Tryd.underlying5 Tryd.underlying9 g 0 ⟨l.toArray⟩ hc c
  rwa [show (⟨l.toArray⟩ : ByteArray).size = n by show l.toArray.size = n; simpa using hl] at this
end Go.Proofs.YtinkaglngblddaaDoor
