/- The laws' marks on strings: contracts of markText, markStringS, heldStringS. No condition but the stated bounds. -/
import Derived.Test.YtpnhpkgcaadnkaaStr
import Derived.Test.YtpnhpkgcaadnkaaByt
import Derived.Test.YtpnhpkgcaadnkaaRow
namespace Go.Proofs.Ytpnhpkgcaadnkaa
set_option linter.unusedVariables false
set_option linter.unusedSimpArgs false
open Go.RowKit Go.Joins

/-- The digits of a number. -/
def mtd (k : Nat) : List UInt8 := if h : k = 0 then [] else mtd (k / 10) ++ [UInt8.ofNat (48 + k % 10)]
termination_by k
decreasing_by omega
theorem mtd_zero : mtd 0 = [] := by rw [mtd]; rfl
theorem mtd_pos {k : Nat} (h : 0 < k) : mtd k = mtd (k / 10) ++ [UInt8.ofNat (48 + k % 10)] := by
  rw [mtd]
  rw [dif_neg (by omega)]
/-- The text of a mark. -/
def mtx (k : Nat) : ByteArray := ⟨#[109]⟩ ++ ⟨(mtd k).toArray⟩
/-- 'string([]byte{x})'. -/
theorem conv_one (W : World) (x : Nat) (hx : x < 256) : (Go.convert 59 9 (.slice (some ⟨W.heap.size, 0, none⟩) 1 1)).run Try.prog (W.alloc (.cells #[.int .u8 (x : Int)] 5)) = .ok (.string ⟨#[UInt8.ofNat x]⟩) (W.alloc (.cells #[.int .u8 (x : Int)] 5)) := by
  have e : ((UInt8.ofNat x).toNat : Int) = x := by simp; omega
  have hc : Go.Lib.Bytes (W.alloc (.cells #[.int .u8 (x : Int)] 5)) W.heap.size 0 ⟨#[UInt8.ofNat x]⟩ := fun i hi => by
    have hi' : i < 1 := hi
    obtain rfl : i = 0 := by omega
    rw [Nat.zero_add, cell_of_block (heap_alloc_new _ _)]
    show some (Value.int .u8 (x : Int)) = some (.int .u8 ((UInt8.ofNat x).toNat : Int))
    rw [e]
  exact Go.Lib.run_convert_whole (P := Try.prog) _ 59 5 9 Try.underlying59 Try.underlying5 Try.underlying9 W.heap.size 0 ⟨#[UInt8.ofNat x]⟩ hc 1
theorem mtd_len (n : Nat) : ∀ k, k < 10 ^ n → (mtd k).length ≤ n := by
  induction n with
  | zero => intro k h; rw [show k = 0 by simp at h; omega, mtd_zero]; simp
  | succ n ih =>
    intro k h
    by_cases h0 : 0 < k
    · rw [mtd_pos h0, List.length_append]
      have := ih (k / 10) (by rw [Nat.pow_succ] at h; omega)
      simp
      omega
    · rw [show k = 0 by omega, mtd_zero]; simp
set_option maxHeartbeats 1000000 in
set_option maxRecDepth 100000 in
theorem markText_any (K : Nat) (w : World) (hK : 0 < K ∧ K ≤ 1000000000) :
    Calls Try.prog 46 #[.int .i64 K] w fun e w' => e = .returned (.string (mtx K)) ∧ Ext w w' := by
  have hk0 : ¬ (K : Int) ≤ 0 := by omega
  go_enter Try.func46, Try.ntmps46
  go_wp2
  go_loopw [0, 3] (fun k s wr => ∃ (q : Nat) (t : ByteArray), q ≤ K ∧ k = .int .i64 q ∧ s = .string t ∧ mtd q ++ t.data.toList = mtd K ∧ Ext w wr) (fun k _ _ => (intOf k).toNat)
  case atStart => exact ⟨K, ⟨#[]⟩, Nat.le_refl _, rfl, rfl, by simp, Ext.refl _⟩
  case round =>
    obtain ⟨q, t, hq, rfl, rfl, ht, hx⟩ := hrel
    have HT := Lib.hid ht
    clear ht
    by_cases h0 : 0 < q
    · obtain ⟨r, hr⟩ : ∃ r, q % 10 = r := ⟨_, rfl⟩
      obtain ⟨d, hd⟩ : ∃ d, q / 10 = d := ⟨_, rfl⟩
      have e2 : (q : Int) % 10 = r := by omega
      have e3 : (q : Int) / 10 = d := by omega
      have hr9 : r ≤ 9 := by omega
      have HS : Hid (mtd d ++ (UInt8.ofNat (48 + r) :: t.data.toList) = mtd K) := by
        show _ = _
        rw [← HT.out, mtd_pos h0, hd, hr, List.append_assoc]
        rfl
      have hdq : d < q := by omega
      have hcv := conv_one wr (48 + r) (by omega)
      rw [show ((48 + r : Nat) : Int) = 48 + (r : Int) by omega] at hcv
      have hts : t.size ≤ 10 := by
        have h1 := mtd_len 10 K (by omega)
        rw [← HT.out, List.length_append] at h1
        have h2 : t.data.toList.length = t.size := by simp
        omega
      obtain ⟨o, ho⟩ : ∃ o : ByteArray, (⟨#[UInt8.ofNat (48 + r)]⟩ : ByteArray) = o := ⟨_, rfl⟩
      have hos : o.size = 1 := by rw [← ho]; rfl
      have HO : Hid (o.data.toList = [UInt8.ofNat (48 + r)]) := by show _ = _; rw [← ho]
      rw [ho] at hcv
      clear hr hd ho
      have hi : 0 < (q : Int) := by omega
      go_wp2
      go_roundw
      case rel => exact ⟨d, _, by omega, rfl, rfl, by rw [← HS.out, ByteArray.data_append, Array.toList_append, HO.out]; rfl, hx.alloc _⟩
      case measure => simp [intOf]; omega
    · have hi : ¬ 0 < (q : Int) := by omega
      have hts : t.size ≤ 10 := by
        have h1 := mtd_len 10 K (by omega)
        rw [← HT.out, List.length_append] at h1
        have h2 : t.data.toList.length = t.size := by simp
        omega
      have HR : Hid ((⟨#[109]⟩ : ByteArray) ++ t = mtx K) := by
        show _ = _
        have := HT.out
        rw [show q = 0 by omega, mtd_zero, List.nil_append] at this
        unfold mtx
        rw [← this]
      go_wp2
      go_ret
      exact ⟨by rw [← HR.out]; rfl, hx⟩
theorem markText_is (K : Nat) (k : Int) (w : World) (hk : k = K) (hK : 0 < K ∧ K ≤ 1000000000) :
    Calls Try.prog 46 #[.int .i64 k] w fun e w' => e = .returned (.string (mtx K)) ∧ Ext w w' := by
  subst hk
  exact markText_any K w hK
theorem mtx_sz {k : Nat} (h : k ≤ 1000000000) : (mtx k).size ≤ 9223372036854775807 := by
  have h1 := mtd_len 10 k (by omega)
  unfold mtx
  rw [ByteArray.size_append]
  have h2 : (⟨(mtd k).toArray⟩ : ByteArray).size = (mtd k).length := by show (mtd k).toArray.size = _; simp
  have h3 : (⟨#[109]⟩ : ByteArray).size = 1 := rfl
  omega
/-- The texts of the marks k, k + 1, .. -/
def mks (k : Nat) (n : Nat) : List ByteArray := (List.range n).map fun i => mtx (k + i)
theorem mks_len (k n : Nat) : (mks k n).length = n := by simp [mks]
theorem mks_get {k n i : Nat} (h : i < n) : gs (mks k n) i = mtx (k + i) := by simp [gs, mks, h]
theorem mks_sz {k n : Nat} (hk : k ≤ 500000000) (hn : n ≤ 500000000) : ∀ s ∈ mks k n, s.size ≤ 9223372036854775807 := by
  intro s hs
  simp only [mks, List.mem_map, List.mem_range] at hs
  obtain ⟨i, hi, rfl⟩ := hs
  exact mtx_sz (by omega)
/-- What a mark of strings does. -/
def MarkdS (w : World) (lo hi : Nat) (A : Option Addr) (n c : Nat) (k : Nat) (en : Ending) (w' : World) : Prop :=
  ∃ K : Nat, en = .returned (.int .i64 K) ∧ K = k + n ∧ w.grownBy w' (A.map (·.block)) ∧ RowG w' lo hi 9 1 A n c ((mks k n).map Value.string)
set_option maxHeartbeats 1000000 in
theorem heldStringS_is (A : Option Addr) (n c : Nat) (k K : Nat) (w : World) (hI : Strs w A n (mks k n)) (hk : 1 ≤ k ∧ k ≤ 100000000) (hn : n ≤ 1048576) (hK : K = k + n) :
    Calls Try.prog 26 #[.slice A n c, .int .i64 k] w fun e w' => e = .returned (.int .i64 K) ∧ Ext w w' := by
  subst hK
  go_enter Try.func26, Try.ntmps26
  go_wp2
  go_loopw [1, 5] (fun s i wr => ∃ j : Nat, j ≤ n ∧ i = .int .i64 j ∧ s = .int .i64 ((k + j : Nat) : Int) ∧ Ext w wr) (fun _ i _ => n - (intOf i).toNat)
  case atStart => exact ⟨0, Nat.zero_le _, rfl, rfl, Ext.refl _⟩
  case round =>
    obtain ⟨j, hj, rfl, rfl, hx⟩ := hrel
    by_cases hlt : j < n
    · obtain ⟨b, off, hA, hb, hcell⟩ := (hI.ext hx).at_ (by omega)
      subst hA
      have hc := hcell j hlt
      rw [mks_get hlt] at hc
      have i1 : (j : Int) < n := by omega
      clear hcell
      obtain ⟨q, hq⟩ : ∃ q, k + j = q := ⟨_, rfl⟩
      have HQ : Hid (((q + 1 : Nat) : Int) = ((k + (j + 1) : Nat) : Int)) := by show _ = _; omega
      have hq0 : 0 < q ∧ q ≤ 1000000000 := by omega
      rw [hq] at hc ⊢
      clear hq
      generalize hmt : mtx q = t at hc
      have HM := Lib.hid hmt
      clear hmt
      go_wp2
      go_region_held3 (fun wz => wz.cell? ⟨b, off + j, none⟩ = some (.string t)) (go_keep)
        (first | (go_at_call 46; (with_reducible refine (markText_any q _ hq0).mono ?_); rw [HM.out]; rintro e w1 ⟨rfl, hx1⟩; have hk1 : ∀ o, w1.cell? ⟨b, o, none⟩ = _ := fun o => hx1.cells.1 _ o (by first | (simp; done) | (simp; omega) | omega)))
      all_goals
        go_wp2
        go_roundw
        case rel => exact ⟨j + 1, by omega, by go_num, by rw [← HQ.out]; go_num, (by with_reducible (repeat (first | exact Ext.refl _ | apply Ext.drewN | apply Ext.drew | apply Ext.alloc | (refine Ext.set ?_ (by first | (simp; done) | (simp; omega) | omega) _) | (refine Ext.trans ?_ (by assumption)))))⟩
        case measure => simp [intOf]; omega
    · obtain rfl : j = n := by omega
      go_wp2
      go_ret
      exact ⟨rfl, hx⟩
theorem grown_ext {a w w' : World} {row : Option Nat} (h : a.grownBy w row) (k : Ext w w') : a.grownBy w' row :=
  ⟨k.os.trans h.os, k.tape.trans h.tape, k.output.trans h.output, Nat.le_trans h.size k.size, fun i hi hne => (Below.block k i (Nat.lt_of_lt_of_le hi h.size)).trans (h.block i hi hne)⟩
/-- The first j strings are marked. -/
def mkg (ss : List ByteArray) (k j : Nat) : List ByteArray := mks k j ++ ss.drop j
theorem mkg_zero (ss : List ByteArray) (k : Nat) : mkg ss k 0 = ss := by simp [mkg, mks]
theorem mkg_all (ss : List ByteArray) (k : Nat) : mkg ss k ss.length = mks k ss.length := by simp [mkg]
theorem mkg_len {ss : List ByteArray} {k j : Nat} (h : j ≤ ss.length) : (mkg ss k j).length = ss.length := by simp [mkg, mks]; omega
theorem mkg_set {ss : List ByteArray} {k j : Nat} (h : j < ss.length) : (mkg ss k j).set j (mtx (k + j)) = mkg ss k (j + 1) := by
  have e : mks k (j + 1) = mks k j ++ [mtx (k + j)] := by simp [mks, List.range_succ]
  unfold mkg
  rw [e, List.set_append_right _ _ (by simp [mks]), mks_len, Nat.sub_self, List.drop_eq_getElem_cons h, List.set_cons_zero, List.append_assoc]
  rfl
set_option maxHeartbeats 1000000 in
theorem markStringS_own (lo hi : Nat) (A : Option Addr) (n c : Nat) (k : Nat) (ss : List ByteArray) (w : World) (hO : RowG w lo hi 9 1 A n c (ss.map Value.string)) (hhi : hi ≤ w.heap.size) (hk : 1 ≤ k ∧ k ≤ 100000000) (hn : n ≤ 1048576) :
    Calls Try.prog 20 #[.slice A n c, .int .i64 k] w (MarkdS w lo hi A n c k) := by
  have hl : ss.length = n := by have := hO.len; simpa using this
  rcases Nat.eq_zero_or_pos n with h0 | hp
  · subst h0
    obtain rfl : ss = [] := List.eq_nil_of_length_eq_zero hl
    have H := Lib.hid hO
    clear hO hl
    go_enter Try.func20, Try.ntmps20
    go_wp2
    go_loop [1, 5] (fun s i => i = .int .i64 0 ∧ s = .int .i64 k) (fun _ i => 0)
    case atStart => exact ⟨rfl, rfl⟩
    case round =>
      obtain ⟨rfl, rfl⟩ := hrel
      go_wp2
      go_ret
      exact ⟨_, rfl, by omega, World.grownBy.refl _ _, H.out⟩
  · obtain ⟨g, rfl, hg⟩ := hO.form hp
    have hgb := hO.row_bd g rfl
    have HO := Lib.hid hO
    have HL := Lib.hid hl
    clear hO hl
    go_enter Try.func20, Try.ntmps20
    go_wp2
    go_loopw [1, 5] (fun s i wr => ∃ j : Nat, j ≤ n ∧ i = .int .i64 j ∧ s = .int .i64 ((k + j : Nat) : Int) ∧ RowG wr lo hi 9 1 (some ⟨g, 0, none⟩) n c ((mkg ss k j).map Value.string) ∧ w.grownBy wr (some g)) (fun _ i _ => n - (intOf i).toNat)
    case atStart => exact ⟨0, Nat.zero_le _, rfl, rfl, by rw [mkg_zero]; exact HO.out, World.grownBy.refl _ _⟩
    case round =>
      obtain ⟨j, hj, rfl, rfl, hrow, hgr⟩ := hrel
      have hgz := hgr.size
      by_cases hlt : j < n
      · have i1 : (j : Int) < n := by omega
        obtain ⟨q, hq⟩ : ∃ q, k + j = q := ⟨_, rfl⟩
        have HQ : Hid (((q + 1 : Nat) : Int) = ((k + (j + 1) : Nat) : Int)) := by show _ = _; omega
        have hq0 : 0 < q ∧ q ≤ 1000000000 := by omega
        have HST : Hid ((mkg ss k j).set j (mtx q) = mkg ss k (j + 1)) := by show _ = _; rw [← hq]; exact mkg_set (by rw [HL.out]; exact hlt)
        rw [hq]
        clear hq
        go_wp2_with (first | (go_at_call 46; (with_reducible refine (markText_any q _ hq0).mono ?_); rintro e w1 ⟨rfl, hx1⟩; have hr1 := hrow.ext hx1; have hl1 := hr1.len; obtain ⟨hcc, hff⟩ := hr1.cellAt (p := j) (by omega); rw [List.getElem?_eq_getElem (by omega)] at hcc))
        go_roundw
        case rel => exact ⟨j + 1, by omega, by go_num, by rw [← HQ.out]; go_num, by rw [← HST.out, List.map_set]; exact hr1.store j _, only_setCell (grown_ext hgr hx1) rfl _⟩
        case measure => simp [intOf]; omega
      · obtain rfl : j = n := by omega
        have HR : Hid (mkg ss k j = mks k j) := by show _ = _; have := mkg_all ss k; rwa [HL.out] at this
        go_wp2
        go_ret
        rw [HR.out] at hrow
        exact ⟨_, rfl, by omega, hgr, hrow⟩
theorem markStringS_at (lo hi : Nat) (A : Option Addr) (n c : Nat) (k : Nat) (q : Int) (ss : List ByteArray) (w : World) (hO : RowG w lo hi 9 1 A n c (ss.map Value.string)) (hhi : hi ≤ w.heap.size) (hq : q = k) (hk : 1 ≤ k ∧ k ≤ 100000000) (hn : n ≤ 1048576) :
    Calls Try.prog 20 #[.slice A n c, .int .i64 q] w (MarkdS w lo hi A n c k) := by
  subst hq
  exact markStringS_own lo hi A n c k ss w hO hhi hk hn
theorem heldStringS_at (A : Option Addr) (n c : Nat) (k K : Nat) (q : Int) (w : World) (hI : Strs w A n (mks k n)) (hq : q = k) (hk : 1 ≤ k ∧ k ≤ 100000000) (hn : n ≤ 1048576) (hK : K = k + n) :
    Calls Try.prog 26 #[.slice A n c, .int .i64 q] w fun e w' => e = .returned (.int .i64 K) ∧ Ext w w' := by
  subst hq
  exact heldStringS_is A n c k K w hI hk hn hK
end Go.Proofs.Ytpnhpkgcaadnkaa
