/- Slices of strings: words, and contracts of the laws' copies, sizes, comparisons and marks. No condition but the stated bounds. -/
import Derived.Test.YtpnhpkgcaadnkaaRowG
import Derived.Deep.OwnRows
import Derived.SliceStrings
import Derived.Deep.RegionHeld3
namespace Go.Proofs.Ytpnhpkgcaadnkaa
set_option linter.unusedVariables false
set_option linter.unusedSimpArgs false
open Go.ChangeShapes Go.WideShapes Go.ChangeAt Go.RowKit Go.Joins

/-- The string i. -/
def gs (ss : List ByteArray) (i : Nat) : ByteArray := ss[i]?.getD ByteArray.empty
/-- The slice (A, n) of strings holds ss. -/
structure Strs (w : World) (A : Option Addr) (n : Nat) (ss : List ByteArray) : Prop where
  len : ss.length = n
  small : n ≤ 9223372036854775807
  szs : ∀ s ∈ ss, s.size ≤ 9223372036854775807
  at_ : 0 < n → ∃ b off, A = some ⟨b, off, none⟩ ∧ b < w.heap.size ∧ ∀ i, i < n → w.cell? ⟨b, off + i, none⟩ = some (.string (gs ss i))
theorem Strs.ext {w w' : World} {A : Option Addr} {n : Nat} {ss : List ByteArray} (h : Strs w A n ss) (k : Ext w w') : Strs w' A n ss :=
  ⟨h.len, h.small, h.szs, fun hn => by
    obtain ⟨b, off, e, hb, hc⟩ := h.at_ hn
    exact ⟨b, off, e, Nat.lt_of_lt_of_le hb k.size, fun i hi => k.cell hb (hc i hi)⟩⟩
theorem gs_mem {ss : List ByteArray} {i : Nat} (h : i < ss.length) : gs ss i ∈ ss := by
  unfold gs
  rw [List.getElem?_eq_getElem h]
  exact List.getElem_mem h
theorem Strs.sz {w : World} {A : Option Addr} {n : Nat} {ss : List ByteArray} (h : Strs w A n ss) (i : Nat) : (gs ss i).size ≤ 9223372036854775807 := by
  rcases Nat.lt_or_ge i ss.length with hi | hi
  · exact h.szs _ (gs_mem hi)
  · unfold gs
    rw [List.getElem?_eq_none hi]
    show ByteArray.empty.size ≤ _
    decide
theorem gs_ext {ss tt : List ByteArray} (hl : ss.length = tt.length) (h : ∀ i, i < ss.length → gs ss i = gs tt i) : ss = tt := by
  apply List.ext_getElem hl
  intro i h1 h2
  have := h i h1
  unfold gs at this
  rw [List.getElem?_eq_getElem h1, List.getElem?_eq_getElem h2] at this
  exact this
/-- An argument's reading. -/
theorem argStrs {H : Type} {enc : TypeId × Value → H} {P : Program} {W : World} {t e : TypeId} {A : Option Addr} {n c : Nat} {d : DataW H} {p : List MemPlace} (ht : P.underlying t = some (.slice e)) (he : P.underlying e = some .string) (hc : P.cellsOf e = 1)
    (h : DataW.Trod enc P W 0 (fun _ => true) true t (.slice A n c) d p) : ∃ ss, Strs W A n ss := by
  obtain ⟨fuel, hf⟩ := h
  rcases open_strings ht he hc hf with ⟨hcs, hx⟩ | ⟨a, len, cap, zs, hcs, _, hl, hm, hz, hx, hcell, hwz⟩
  · obtain ⟨rfl, rfl, rfl⟩ : A = none ∧ n = 0 ∧ c = 0 := by simpa [Value.cells] using hcs
    exact ⟨[], rfl, by omega, by simp, fun h => absurd h (by omega)⟩
  · obtain ⟨rfl, rfl, rfl⟩ : A = some a ∧ n = len ∧ c = cap := by simpa [Value.cells] using hcs
    simp only [if_true] at hz
    unfold maxLen at hm hwz
    refine ⟨zs.take n, by simp; omega, by omega, fun x hx => hwz x (List.mem_of_mem_take hx), fun hn => ?_⟩
    obtain ⟨b, off, spot⟩ := a
    have hspot : spot = none := by simpa [Addr.add] using World.cell?_spot (hcell 0 (by omega))
    subst hspot
    have hcc : ∀ j, j < zs.length → W.cell? ⟨b, off + j, none⟩ = some (.string (zs.getD j ByteArray.empty)) := fun j hj => by rw [← Go.WideShapes.add_plain]; exact hcell j hj
    refine ⟨b, off, rfl, cell_lt (hcc 0 (by omega)), fun i hi => ?_⟩
    rw [hcc i (by omega)]
    unfold gs
    simp [hi]
/-- A row of strings is read. -/
theorem RowG.strs {w : World} {lo hi : Nat} {e : TypeId} {A : Option Addr} {n c : Nat} {ss : List ByteArray} (h : RowG w lo hi e 1 A n c (ss.map Value.string)) (hs : n ≤ 9223372036854775807) (hz : ∀ s ∈ ss, s.size ≤ 9223372036854775807) : Strs w A n ss := by
  have hl := h.len
  rw [List.length_map, Nat.mul_one] at hl
  refine ⟨hl, hs, hz, fun h0 => ?_⟩
  obtain ⟨g, rfl, hg⟩ := h.form h0
  refine ⟨g, 0, rfl, hg, fun i hi => ?_⟩
  rw [Nat.zero_add, (h.cellAt (p := i) (by omega)).1, List.getElem?_map]
  unfold gs
  rw [List.getElem?_eq_getElem (by omega)]
  rfl
theorem infoStr : (Try.prog.info? 9).map (fun i => (i.zero, i.size, i.bytes)) = some (some (.string ⟨#[]⟩), 1, 16) := by kernel_rfl
theorem elStr : ElG Try.prog 9 1 16 := elG infoStr rfl
/-- What hands back a row of strings. -/
def RetS (w : World) (n : Nat) (ss : List ByteArray) (en : Ending) (w' : World) : Prop := ∃ A c, en = .returned (.slice A n c) ∧ RowG w' w.heap.size w'.heap.size 9 1 A n c (ss.map Value.string) ∧ Ext w w'
set_option maxHeartbeats 400000 in
theorem toStringS_row (A : Option Addr) (n c : Nat) (ss : List ByteArray) (w : World) (hI : Strs w A n ss) (hn : n ≤ 1048576) :
    Calls Try.prog 12 #[.slice A n c] w (RetS w n ss) := by
  have hmk := fun W => run_make_row' (P := Try.prog) 22 9 (.string ⟨#[]⟩) 16 Try.underlying22 infoStr rfl .i64 .i64 n (by omega) (by omega) W
  have hR0 : RowG (w.alloc (.cells (madeCells #[.string ⟨#[]⟩] n) 9)) w.heap.size (w.heap.size + 1) 9 1 (some ⟨w.heap.size, 0, none⟩) n n (madeCells #[.string ⟨#[]⟩] n).toList := by
    refine ⟨⟨by simp [size_madeCells], .inr ⟨w.heap.size, n, madeCells #[.string ⟨#[]⟩] n, rfl, Nat.le_refl _, heap_alloc_new _ _, Nat.le_refl _, by unfold maxLen; omega, by simp [size_madeCells], ?_⟩⟩, fun a ha => by cases ha; simp⟩
    exact List.take_of_length_le (by simp [size_madeCells])
  go_enter Try.func12, Try.ntmps12
  go_wp2
  clear hmk
  go_loopw [4] (fun i wr => ∃ k : Nat, k ≤ n ∧ i = .int .i64 k ∧ Ext w wr ∧ w.heap.size < wr.heap.size ∧ ∃ cs, RowG wr w.heap.size (w.heap.size + 1) 9 1 (some ⟨w.heap.size, 0, none⟩) n n cs ∧ ∀ j, j < k → cs[j]? = some (.string (gs ss j))) (fun i _ => n - (intOf i).toNat)
  case atStart => exact ⟨0, Nat.zero_le _, rfl, (Ext.refl _).alloc _, by simp, _, hR0, fun j h => absurd h (by omega)⟩
  case round =>
    obtain ⟨k, hk, rfl, hxe, hbig, cs, hrow, hcs⟩ := hrel
    have HCS := Lib.hid hcs
    clear hcs hR0
    by_cases hlt : k < n
    · obtain ⟨b, off, hA, hb, hcell⟩ := (hI.ext hxe).at_ (by omega)
      subst hA
      have c1 := hcell k hlt
      have hl := hrow.len
      obtain ⟨c2, f2⟩ := hrow.cellAt (p := k) (by omega)
      rw [List.getElem?_eq_getElem (by omega)] at c2
      generalize cs[k]'(by omega) = u at c2
      clear hcell
      have HN : Hid (RowG (wr.setCell ⟨w.heap.size, k, none⟩ (.string (gs ss k))) w.heap.size (w.heap.size + 1) 9 1 (some ⟨w.heap.size, 0, none⟩) n n (cs.set k (.string (gs ss k))) ∧ ∀ j, j < k + 1 → (cs.set k (.string (gs ss k)))[j]? = some (.string (gs ss j))) := by
        refine ⟨hrow.store k _, fun j hj => ?_⟩
        by_cases e : j = k
        · subst e
          rw [List.getElem?_set_self (by omega)]
        · rw [List.getElem?_set_ne (Ne.symm e)]
          exact HCS.out j (by omega)
      go_wp2
      go_roundw
      case rel => exact ⟨k + 1, by omega, by go_num, hxe.set (Nat.le_refl _) _, by simpa [World.setCell] using hbig, _, HN.out.1, HN.out.2⟩
      case measure => simp [intOf]; omega
    · obtain rfl : k = n := by omega
      have HE : Hid (cs = ss.map Value.string) := by
        have hl := hrow.len
        apply List.ext_getElem?
        intro i
        by_cases hi : i < k
        · rw [HCS.out i hi, List.getElem?_map]
          unfold gs
          rw [List.getElem?_eq_getElem (by rw [hI.len]; exact hi)]
          rfl
        · rw [List.getElem?_eq_none (by omega), List.getElem?_eq_none (by rw [List.length_map, hI.len]; omega)]
      have HT : Hid (RetS w k ss (.returned (.slice (some ⟨w.heap.size, 0, none⟩) k k)) wr) := by
        rw [HE.out] at hrow
        exact ⟨_, _, rfl, ⟨hrow.own, fun a ha => by cases ha; exact hbig⟩, hxe⟩
      go_wp2
      go_ret
      exact HT.out
set_option maxHeartbeats 400000 in
theorem eqStringS_row (A B : Option Addr) (n c d : Nat) (ss : List ByteArray) (w : World) (hI : Strs w A n ss) (hJ : Strs w B n ss) :
    Calls Try.prog 14 #[.slice A n c, .slice B n d] w (fun e w' => e = .returned (.bool true) ∧ Ext w w') := by
  have hs := hI.small
  go_enter Try.func14, Try.ntmps14
  go_wp2
  go_loopw [5] (fun i wr => ∃ k : Nat, k ≤ n ∧ i = .int .i64 k ∧ Qt w wr) (fun i _ => n - (intOf i).toNat)
  case atStart => exact ⟨0, Nat.zero_le _, rfl, Qt.refl _⟩
  case round =>
    obtain ⟨k, hk, rfl, m, rfl⟩ := hrel
    by_cases hlt : k < n
    · obtain ⟨b, off, hA, hb, hcell⟩ := hI.at_ (by omega)
      obtain ⟨b2, off2, hB, hb2, hcell2⟩ := hJ.at_ (by omega)
      subst hA hB
      have c1 := hcell k hlt
      have c2 := hcell2 k hlt
      have i1 : (k : Int) < n := by omega
      clear hcell hcell2
      generalize gs ss k = s at *
      go_wp2
      go_quiet (fail)
      go_wp2
      go_roundw
      case rel => exact ⟨k + 1, by omega, by go_num, (by first | exact ⟨_, rfl⟩ | exact ⟨_, World.drewN_drewN _ _ _⟩)⟩
      case measure => simp [intOf]; omega
    · obtain rfl : k = n := by omega
      go_wp2
      go_ret
      exact ⟨rfl, (by with_reducible (repeat (first | exact Ext.refl _ | apply Ext.drewN | apply Ext.drew | apply Ext.alloc | (refine Ext.set ?_ (by first | (simp; done) | (simp; omega) | omega) _) | (refine Ext.trans ?_ (by assumption)))))⟩
/-- The sizes of the first k strings. -/
def szs (ss : List ByteArray) : Nat → Nat
  | 0 => 0
  | k + 1 => szs ss k + (gs ss k).size
theorem szs_ge (ss : List ByteArray) {k i : Nat} (h : i < k) : (gs ss i).size ≤ szs ss k := by
  induction k with
  | zero => omega
  | succ k ih =>
    simp only [szs]
    by_cases e : i = k
    · subst e; omega
    · have := ih (by omega); omega
/-- Small strings, or a negative number. -/
def Sz (w : World) (n : Nat) (ss : List ByteArray) (en : Ending) (w' : World) : Prop := ∃ r : Int, en = .returned (.int .i64 r) ∧ (r < 0 ∨ (0 ≤ r ∧ n ≤ 1048576 ∧ ∀ i, (gs ss i).size ≤ 1048576)) ∧ w = w'
set_option maxHeartbeats 400000 in
theorem szStringS_any (A : Option Addr) (n c : Nat) (ss : List ByteArray) (w : World) (hI : Strs w A n ss) :
    Calls Try.prog 10 #[.slice A n c, .int .i64 1048576] w (Sz w n ss) := by
  have hs := hI.small
  have HL := Lib.hid hI.len
  by_cases hn : n ≤ 1048576
  · have hn2 : (n : Int) ≤ 1048576 := by omega
    have HF : Hid (∀ r, 0 ≤ r → szs ss n ≤ 1048576 → Sz w n ss (.returned (.int .i64 r)) w) := fun r hr h => ⟨r, rfl, .inr ⟨hr, hn, fun i => by
      rcases Nat.lt_or_ge i n with hi | hi
      · exact Nat.le_trans (szs_ge ss hi) h
      · unfold gs
        rw [List.getElem?_eq_none (by rw [HL.out]; exact hi)]
        show ByteArray.empty.size ≤ _
        decide⟩, rfl⟩
    have HG : Hid (Sz w n ss (.returned (.int .i64 (-1))) w) := ⟨-1, rfl, .inl (by omega), rfl⟩
    go_enter Try.func10, Try.ntmps10
    go_wp2
    go_loop [1, 5] (fun s i => ∃ k : Nat, k ≤ n ∧ i = .int .i64 k ∧ s = .int .i64 (1048576 - n - szs ss k) ∧ n + szs ss k ≤ 1048576) (fun _ i => n - (intOf i).toNat)
    case atStart => exact ⟨0, Nat.zero_le _, rfl, by simp [szs], by simpa [szs] using hn⟩
    case round =>
      obtain ⟨k, hk, rfl, rfl, hle⟩ := hrel
      by_cases hlt : k < n
      · obtain ⟨b, off, hA, hb, hcell⟩ := hI.at_ (by omega)
        subst hA
        have c1 := hcell k hlt
        have hsz := hI.sz k
        have i1 : (k : Int) < n := by omega
        have HS : Hid (szs ss (k + 1) = szs ss k + (gs ss k).size) := rfl
        clear hcell
        generalize gs ss k = s at *
        by_cases hfit : n + (szs ss k + s.size) ≤ 1048576
        · go_wp2
          go_round
          case rel => exact ⟨k + 1, by omega, by go_num, by rw [HS.out]; go_num, by rw [HS.out]; omega⟩
          case measure => simp [intOf]; omega
        · go_wp2
          go_ret
          exact HG.out
      · obtain rfl : k = n := by omega
        have HH := Lib.hid (HF.out (1048576 - k - szs ss k) (by omega) (by omega))
        go_wp2
        go_ret
        exact HH.out
  · have HG : Hid (Sz w n ss (.returned (.int .i64 (-1))) w) := ⟨-1, rfl, .inl (by omega), rfl⟩
    go_enter Try.func10, Try.ntmps10
    go_wp2
    go_ret
    exact HG.out
end Go.Proofs.Ytpnhpkgcaadnkaa
