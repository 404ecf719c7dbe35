/- Texts of patterns: contracts of the program's PatternText and of the reference's l02Text. No condition but the stated bounds. -/
import Derived.Test.YtinkaglngblddaaDoorByt
import Derived.Test.YtinkaglngblddaaDoorMea
import Derived.Laws.Concat
import Derived.Deep.RegionHeld3
namespace Go.Proofs.YtinkaglngblddaaDoor
set_option linter.unusedVariables false
set_option linter.unusedSimpArgs false
open Go.RowKit Go.Joins

/-- A throw's character. -/
def dgq (d : Nat) : Nat := if d < 10 then 48 + d else 87 + d
theorem hexQ : ∀ d : Fin 16, ((⟨#[48, 49, 50, 51, 52, 53, 54, 55, 56, 57, 97, 98, 99, 100, 101, 102]⟩ : ByteArray)[d.val]'(by exact d.isLt)).toNat = dgq d := by decide
theorem digQ : ∀ d : Fin 16, ((⟨#[48, 49, 50, 51, 52, 53, 54, 55, 56, 57, 97, 98, 99, 100, 101, 102]⟩ : ByteArray).extract d.val (d.val + 1)) = ⟨#[UInt8.ofNat (dgq d.val)]⟩ := by decide
/-- The characters of the first k throws. -/
def ptk (xs : List Int) (k : Nat) : List UInt8 := (List.range k).map fun i => UInt8.ofNat (dgq (xs[i]?.getD 0).toNat)
theorem ptk_succ (xs : List Int) (k : Nat) : ptk xs (k + 1) = ptk xs k ++ [UInt8.ofNat (dgq (xs[k]?.getD 0).toNat)] := by
  unfold ptk
  rw [List.range_succ, List.map_append]
  rfl
theorem ptk_len (xs : List Int) (k : Nat) : (ptk xs k).length = k := by simp [ptk]
/-- A pattern's text. -/
def ptx (xs : List Int) : ByteArray := ⟨(ptk xs xs.length).toArray⟩
theorem ptx_size (xs : List Int) : (ptx xs).size = xs.length := by
  show (ptk xs xs.length).toArray.size = _
  simp [ptk_len]
theorem vpat_len {xs : List Int} (h : vpat xs = true) : 1 ≤ xs.length ∧ xs.length ≤ 12 := (thr_iff.1 (vpat_thr h)).2
theorem vpat_get {xs : List Int} (h : vpat xs = true) {k : Nat} (hk : k < xs.length) : 0 ≤ xs[k]?.getD 0 ∧ xs[k]?.getD 0 ≤ 15 := by
  obtain ⟨h1, _⟩ := thr_iff.1 (vpat_thr h)
  exact h1 k hk
set_option maxHeartbeats 2000000 in
set_option maxRecDepth 100000 in
theorem PatternText_any (A : Option Addr) (n c : Nat) (xs : List Int) (w : World) (hI : Ints w A n xs) (hv : vpat xs = true) :
    Calls Tryd.prog 27 #[.slice A n c] w fun e w' => e = .returned (.string (ptx xs)) ∧ Ext w w' := by
  have HV := Lib.hid hv
  have hln := vpat_len hv
  rw [hI.len] at hln
  have HLN := Lib.hid hI.len
  clear hv
  go_enter Tryd.func27, Tryd.ntmps27
  go_wp2_with fail
  (with_reducible refine (ValidPattern_is A n c xs true HV.out _ (hI.ext (by with_reducible (repeat (first | exact Ext.refl _ | apply Ext.drewN | apply Ext.drew | apply Ext.alloc | (refine Ext.set ?_ (by first | (simp; done) | (simp; omega) | omega) _) | (refine Ext.trans ?_ (by assumption))))))).mono ?_)
  rintro e w1 ⟨rfl, hx1⟩
  have hx01 : Ext w w1 := Ext.trans (by with_reducible (repeat (first | exact Ext.refl _ | apply Ext.drewN | apply Ext.drew | apply Ext.alloc | (refine Ext.set ?_ (by first | (simp; done) | (simp; omega) | omega) _) | (refine Ext.trans ?_ (by assumption))))) hx1
  go_wp2
  go_loopw [3, 5, 12] (fun v _ i wr => ∃ k : Nat, k ≤ n ∧ i = .int .i64 k ∧ OwnG 5 1 w wr v k (bcs (ptk xs k))) (fun _ _ i _ => n - (intOf i).toNat)
  case atStart => exact ⟨0, Nat.zero_le _, rfl, ownG_empty hx01 5 1⟩
  case round =>
    obtain ⟨k, hk, rfl, hown⟩ := hrel
    have hx := hown.ext
    by_cases hlt : k < n
    · obtain ⟨b, off, hA, hb, hcell⟩ := (hI.ext hx).at_ (by omega)
      subst hA
      have c1 := hcell k hlt
      have hbd := vpat_get HV.out (k := k) (by rw [HLN.out]; exact hlt)
      obtain ⟨d, hd⟩ : ∃ d : Nat, xs[k]?.getD 0 = d := ⟨(xs[k]?.getD 0).toNat, by omega⟩
      rw [hd] at c1 hbd
      have hd16 : d < 16 := by omega
      have hdi : (d : Int) < 16 := by omega
      have hki : (k : Int) < n := by omega
      have hsz : d < (⟨#[48, 49, 50, 51, 52, 53, 54, 55, 56, 57, 97, 98, 99, 100, 101, 102]⟩ : ByteArray).size := hd16
      obtain ⟨x8, hx8⟩ : ∃ x8 : UInt8, UInt8.ofNat (dgq d) = x8 := ⟨_, rfl⟩
      have hbyte : ((⟨#[48, 49, 50, 51, 52, 53, 54, 55, 56, 57, 97, 98, 99, 100, 101, 102]⟩ : ByteArray)[d]'hsz).toNat = x8.toNat := by
        rw [hexQ ⟨d, hd16⟩, ← hx8]
        have : dgq d ≤ 102 := by unfold dgq; split <;> omega
        simp
        omega
      have HN : Hid (bcs (ptk xs (k + 1)) = bcs (ptk xs k) ++ [.int .u8 (x8.toNat : Int)]) := by
        show _ = _
        rw [ptk_succ, hd, Int.toNat_natCast, hx8, bcs_append]
        rfl
      clear hcell hx8 hd
      go_wp2_with (first | (at_builtin; refine appG elByte (by omega) rfl _ _ Tryd.underlying37 rfl rfl (hown.trans (by with_reducible (repeat (first | exact Ext.refl _ | apply Ext.drewN | apply Ext.drew | apply Ext.alloc | (refine Ext.set ?_ (by first | (simp; done) | (simp; omega) | omega) _) | (refine Ext.trans ?_ (by assumption)))))) (by omega) rfl (heap_alloc_new _ _) (ys := [.int .u8 (x8.toNat : Int)]) (by rfl) (by rfl) (by simp [Value.oneCell']) ?_; intro v' w3 hown'))
      go_roundw
      case rel => exact ⟨k + 1, by omega, by go_num, by rw [HN.out]; exact hown'⟩
      case measure => simp [intOf]; omega
    · obtain rfl : k = n := by omega
      obtain ⟨g, c3, rfl, hcv⟩ := conv_bytes hown (by omega)
      have HR : Hid (ptx xs = ⟨(ptk xs k).toArray⟩) := by show _ = _; unfold ptx; rw [HLN.out]
      generalize (⟨(ptk xs k).toArray⟩ : ByteArray) = s at *
      go_wp2
      go_ret
      exact ⟨by rw [HR.out]; rfl, hx⟩
set_option maxHeartbeats 2000000 in
set_option maxRecDepth 100000 in
theorem l02Text_any (A : Option Addr) (n c : Nat) (xs : List Int) (w : World) (hI : Ints w A n xs) (hv : vpat xs = true) :
    Calls Tryd.prog 53 #[.slice A n c] w fun e w' => e = .returned (.string (ptx xs)) ∧ Qt w w' := by
  have HV := Lib.hid hv
  have hln := vpat_len hv
  rw [hI.len] at hln
  have HLN := Lib.hid hI.len
  clear hv
  go_enter Tryd.func53, Tryd.ntmps53
  go_wp2
  go_loopw [4, 5] (fun v i wr => ∃ (k : Nat) (s : ByteArray), k ≤ n ∧ i = .int .i64 k ∧ v = .string s ∧ Hid (s = ⟨(ptk xs k).toArray⟩) ∧ s.size = k ∧ Qt w wr) (fun _ i _ => n - (intOf i).toNat)
  case atStart => exact ⟨0, _, Nat.zero_le _, rfl, rfl, rfl, rfl, Qt.refl _⟩
  case round =>
    obtain ⟨k, s, hk, rfl, rfl, HS, hss, q, rfl⟩ := hrel
    by_cases hlt : k < n
    · obtain ⟨b, off, hA, hb, hcell⟩ := hI.at_ (by omega)
      subst hA
      have c1 := hcell k hlt
      have hbd := vpat_get HV.out (k := k) (by rw [HLN.out]; exact hlt)
      obtain ⟨d, hd⟩ : ∃ d : Nat, xs[k]?.getD 0 = d := ⟨(xs[k]?.getD 0).toNat, by omega⟩
      rw [hd] at c1 hbd
      have hd16 : d < 16 := by omega
      have hdi : (d : Int) < 16 := by omega
      have hki : (k : Int) < n := by omega
      have h1 : (0 : Int) ≤ d := by omega
      have h2 : (d : Int) + 1 ≤ 16 := by omega
      obtain ⟨x8, hx8⟩ : ∃ x8 : UInt8, UInt8.ofNat (dgq d) = x8 := ⟨_, rfl⟩
      have hsl : ∀ wx : World, (Instr.slice 9 (.string ⟨#[48, 49, 50, 51, 52, 53, 54, 55, 56, 57, 97, 98, 99, 100, 101, 102]⟩) (some (.int .i64 (d : Int))) (some (.int .i64 ((d : Int) + 1))) none).run Tryd.prog wx = .ok (.string ⟨#[x8]⟩) wx := fun wx => by
        have h := run_slice_string (P := Tryd.prog) wx 9 ⟨#[48, 49, 50, 51, 52, 53, 54, 55, 56, 57, 97, 98, 99, 100, 101, 102]⟩ .i64 .i64 (d : Int) ((d : Int) + 1) Tryd.underlying9 h1 (by omega) h2
        rw [show ((d : Int) + 1).toNat = d + 1 by omega, show (d : Int).toNat = d by omega, digQ ⟨d, hd16⟩, hx8] at h
        exact h
      have HN : Hid (s ++ ⟨#[x8]⟩ = (⟨(ptk xs (k + 1)).toArray⟩ : ByteArray)) := by
        show _ = _
        rw [ptk_succ, hd, Int.toNat_natCast, hx8, HS.out]
        exact ByteArray.mk_append_mk (ptk xs k) [x8]
      have hsz3 : ¬ 9223372036854775807 < s.size + 1 := by omega
      have hsz4 : (s ++ ⟨#[x8]⟩ : ByteArray).size = k + 1 := by rw [ByteArray.size_append, hss]; rfl
      clear hcell hx8 hd
      go_wp2
      go_quiet (fail)
      go_wp2
      go_roundw
      case rel => exact ⟨k + 1, _, by omega, by go_num, rfl, HN.out, hsz4, (by first | exact ⟨_, rfl⟩ | exact ⟨_, World.drewN_drewN _ _ _⟩)⟩
      case measure => simp [intOf]; omega
    · obtain rfl : k = n := by omega
      have HR : Hid (ptx xs = s) := by show _ = _; unfold ptx; rw [HLN.out]; exact HS.out.symm
      go_wp2
      go_ret
      exact ⟨by rw [HR.out]; rfl, (by first | exact ⟨_, rfl⟩ | exact ⟨_, World.drewN_drewN _ _ _⟩)⟩
end Go.Proofs.YtinkaglngblddaaDoor
