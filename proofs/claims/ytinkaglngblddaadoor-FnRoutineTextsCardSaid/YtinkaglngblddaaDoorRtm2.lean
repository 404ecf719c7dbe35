/- Routines: copies by the laws in rows of their own, and marks. No condition but the stated bounds. -/
import Derived.Test.YtinkaglngblddaaDoorRtm
namespace Go.Proofs.YtinkaglngblddaaDoor
set_option linter.unusedVariables false
set_option linter.unusedSimpArgs false
open Go.ChangeShapes Go.WideShapes Go.ChangeAt Go.RowKit Go.Joins Go.Deep

theorem ints_one {w : World} {lo hi : Nat} {A : Option Addr} {n c : Nat} {xs : List Int} (h : Row w lo hi 2 1 A n c xs) (hn : n ≤ 1000000000) (hb : ∀ y ∈ xs, -9223372036854775808 ≤ y ∧ y ≤ 9223372036854775807) : Ints w A n xs := by
  have := h.ints (by omega) hb
  rwa [Nat.mul_one] at this
/-- A part's copy, in a row of its own. -/
def RetPartR (w : World) (m : Nat) (xs : List Int) (t : Int) (e : Ending) (w' : World) : Prop :=
  ∃ B c, e = .returned (.agg #[.slice B m c, .int .i64 t]) ∧ Row w' w.heap.size w'.heap.size 2 1 B m c xs ∧ Ext w w'
set_option maxHeartbeats 1000000 in
theorem toPart_row (B : Option Addr) (m c : Nat) (xs : List Int) (t : Int) (w : World) (hI : Ints w B m xs) (hm : m ≤ 1048576) :
    Calls Tryd.prog 54 #[.agg #[.slice B m c, .int .i64 t]] w (RetPartR w m xs t) := by
  go_enter Tryd.func54, Tryd.ntmps54
  go_wp2_with fail
  (with_reducible refine (toInt64S_row _ m _ xs _ (hI.ext (by with_reducible (repeat (first | exact Ext.refl _ | apply Ext.drewN | apply Ext.drew | apply Ext.alloc | (refine Ext.set ?_ (by first | (simp; done) | (simp; omega) | omega) _) | (refine Ext.trans ?_ (by assumption)))))) hm).mono ?_)
  rintro e w1 ⟨A1, c1, rfl, R1, hx⟩
  have hz := hx.size
  (try simp at hz)
  have q0 : w.heap.size < w1.heap.size := by omega
  have q1 : w.heap.size + 1 < w1.heap.size := by omega
  have q2 : w.heap.size + 1 + 1 < w1.heap.size := by omega
  have k0 : ∀ o, w1.cell? ⟨w.heap.size, o, none⟩ = _ := fun o => hx.cells.1 _ o (by first | (simp; done) | (simp; omega) | omega)
  have k1 : ∀ o, w1.cell? ⟨w.heap.size + 1, o, none⟩ = _ := fun o => hx.cells.1 _ o (by first | (simp; done) | (simp; omega) | omega)
  have k2 : ∀ o, w1.cell? ⟨w.heap.size + 1 + 1, o, none⟩ = _ := fun o => hx.cells.1 _ o (by first | (simp; done) | (simp; omega) | omega)
  have f1 : ∀ o, w1.frozen? ⟨w.heap.size + 1, o, none⟩ = _ := fun o => hx.cells.2 _ o (by first | (simp; done) | (simp; omega) | omega)
  have f2 : ∀ o, w1.frozen? ⟨w.heap.size + 1 + 1, o, none⟩ = _ := fun o => hx.cells.2 _ o (by first | (simp; done) | (simp; omega) | omega)
  have HR : Hid (Row w1 (w.heap.size + 3) w1.heap.size 2 1 A1 m c1 xs) := by show Row _ _ _ _ _ _ _ _ _; simpa using R1
  clear R1
  go_wp2
  refine bodyPost_ret (v := .agg #[.slice A1 m c1, .int .i64 t]) (by simp [results, Tryd.results54, go_sem, *]) rfl ⟨A1, c1, rfl, ?_, (by with_reducible (repeat (first | exact Ext.refl _ | apply Ext.drewN | apply Ext.drew | apply Ext.alloc | (refine Ext.set ?_ (by first | (simp; done) | (simp; omega) | omega) _) | (refine Ext.trans ?_ (by assumption)))))⟩
  refine Row.wide (lo := w.heap.size + 3) (hi := w1.heap.size) ?_ (by omega) (by simp [World.setCell])
  repeat' apply Row.otherCell
  · exact HR.out
  all_goals (intro e; have := HR.out.row_bd _ e; (try simp at this); (try omega))
theorem made_part (n i : Nat) (h : i < n) : (madeCells #[.slice none 0 0, .int .i64 0] (n * 2)).toList[i * 2]? = some (.slice none 0 0) ∧ (madeCells #[.slice none 0 0, .int .i64 0] (n * 2)).toList[i * 2 + 1]? = some (.int .i64 0) := by
  have e1 : (i * 2 + 1) % 2 = 1 := by omega
  have h1 : i * 2 < n * 2 := by omega
  have h2 : i * 2 + 1 < n * 2 := by omega
  simp [madeCells, h1, h2, e1]
/-- What hands back parts in rows of their own. -/
def RetP (w : World) (n : Nat) (ps : List (List Int × Int)) (e : Ending) (w' : World) : Prop := ∃ A c, e = .returned (.slice A n c) ∧ PRow w' w.heap.size w'.heap.size A n c ps ∧ Ext w w'
set_option maxHeartbeats 2000000 in
theorem toPartS_row (A : Option Addr) (n c : Nat) (ps : List (List Int × Int)) (w : World) (hP : Parts w A n ps) (hn : n ≤ 1048576) (hm : ∀ i, i < n → (pt ps i).length ≤ 1048576) :
    Calls Tryd.prog 24 #[.slice A n c] w (RetP w n ps) := by
  have hmk := fun W => run_make_parts n hn W
  have HM := Lib.hid hm
  clear hm
  have hR0 : PRowF (w.alloc (.cells (madeCells #[.slice none 0 0, .int .i64 0] (n * 2)) 52)) w.heap.size (w.heap.size + 1) (some ⟨w.heap.size, 0, none⟩) n n (fun _ => (none, 0)) (fun _ => []) (fun _ => 0) := by
    refine ⟨⟨_, ⟨⟨by simp [size_madeCells], .inr ⟨w.heap.size, n, madeCells #[.slice none 0 0, .int .i64 0] (n * 2), rfl, Nat.le_refl _, heap_alloc_new _ _, Nat.le_refl _, by unfold maxLen; omega, by simp [size_madeCells], ?_⟩⟩, fun a ha => by cases ha; simp⟩, fun i hi => made_part n i hi⟩, fun i hi => Row.nil _ _ _ _ _, (fun i j _ _ _ g h => by cases h), (fun i _ g h => by cases h)⟩
    exact List.take_of_length_le (by simp [size_madeCells])
  have hR1 : PRowF (w.alloc (.cells (madeCells #[.slice none 0 0, .int .i64 0] (n * 2)) 52)) w.heap.size (w.alloc (.cells (madeCells #[.slice none 0 0, .int .i64 0] (n * 2)) 52)).heap.size (some ⟨w.heap.size, 0, none⟩) n n (fun _ => (none, 0)) (fun _ => []) (fun _ => 0) := hR0.wide (Nat.le_refl _) (by simp)
  have HR1 := Lib.hid hR1
  clear hR0 hR1
  go_enter Tryd.func24, Tryd.ntmps24
  go_wp2
  clear hmk
  go_loopw [4] (fun i wr => ∃ k : Nat, k ≤ n ∧ i = .int .i64 k ∧ Ext w wr ∧ w.heap.size < wr.heap.size ∧ ∃ H X T, PRowF wr w.heap.size wr.heap.size (some ⟨w.heap.size, 0, none⟩) n n H X T ∧ ∀ j, j < k → X j = pt ps j ∧ T j = tm ps j) (fun i _ => n - (intOf i).toNat)
  case atStart => exact ⟨0, Nat.zero_le _, rfl, (Ext.refl _).alloc _, by simp, _, _, _, HR1.out, fun j h => absurd h (by omega)⟩
  case round =>
    obtain ⟨k, hk, rfl, hxe, hbig, H, X, T, hrow, hcs⟩ := hrel
    have HCS := Lib.hid hcs
    clear hcs HR1
    by_cases hlt : k < n
    · obtain ⟨b, off, hA, hb, hcell⟩ := (hP.ext hxe).at_ (by omega)
      subst hA
      obtain ⟨B, m, d, c0, c1, hI⟩ := hcell k hlt
      have hki : (k : Int) < n := by omega
      have hlm := hI.len
      have hmB : m ≤ 1048576 := by rw [← hI.len]; exact HM.out k hlt
      clear hcell
      obtain ⟨t, ht⟩ : ∃ t, tm ps k = t := ⟨_, rfl⟩
      rw [ht] at c1
      go_wp2_with fail
      (with_reducible refine (toPart_row B m d _ t _ (hI.ext (by with_reducible (repeat (first | exact Ext.refl _ | apply Ext.drewN | apply Ext.drew | apply Ext.alloc | (refine Ext.set ?_ (by first | (simp; done) | (simp; omega) | omega) _) | (refine Ext.trans ?_ (by assumption)))))) hmB).mono ?_)
      rintro e w2 ⟨B2, d2, rfl, R2, hx2⟩
      have hz2 := hx2.size
      have hsz : wr.heap.size ≤ w2.heap.size := by (try simp at hz2); omega
      have hrow2 := hrow.ext (Ext.trans (by with_reducible (repeat (first | exact Ext.refl _ | apply Ext.drewN | apply Ext.drew | apply Ext.alloc | (refine Ext.set ?_ (by first | (simp; done) | (simp; omega) | omega) _) | (refine Ext.trans ?_ (by assumption))))) hx2)
      have hP2 := hrow2.put hlt R2 hlm (by (try simp); (try omega)) hsz (by (try simp); omega) t
      obtain ⟨d0, d1, f0, f1⟩ := hrow2.cells hlt
      generalize (H k).1 = u0 at d0
      generalize (X k).length = u1 at d0
      generalize (H k).2 = u2 at d0
      generalize T k = u3 at d1
      have hbg : w.heap.size < w2.heap.size := by omega
      have HN := Lib.hid hP2
      have hxn : Ext w ((w2.setCell ⟨w.heap.size, k * 2, none⟩ (.slice B2 m d2)).setCell ⟨w.heap.size, k * 2 + 1, none⟩ (.int .i64 t)) := ((hxe.trans (Ext.trans (by with_reducible (repeat (first | exact Ext.refl _ | apply Ext.drewN | apply Ext.drew | apply Ext.alloc | (refine Ext.set ?_ (by first | (simp; done) | (simp; omega) | omega) _) | (refine Ext.trans ?_ (by assumption))))) hx2)).set (Nat.le_refl _) _).set (Nat.le_refl _) _
      clear hrow hrow2 hP2 R2
      go_wp2
      go_roundw
      case rel =>
        refine ⟨k + 1, by omega, by go_num, hxn, by simpa [World.setCell] using hbg, upd H k (B2, d2), upd X k (pt ps k), upd T k t, HN.out.wide (Nat.le_refl _) (by simp [World.setCell]), fun j hj => ?_⟩
        · by_cases e : j = k
          · subst e; rw [upd_self, upd_self]; exact ⟨rfl, ht.symm⟩
          · rw [upd_ne _ _ e, upd_ne _ _ e]; exact HCS.out j (by omega)
      case measure => simp [intOf]; omega
    · obtain rfl : k = n := by omega
      have HT : Hid (RetP w k ps (.returned (.slice (some ⟨w.heap.size, 0, none⟩) k k)) wr) :=
        ⟨_, _, rfl, ⟨hP.len, H, hrow.congr (fun i hi => (HCS.out i hi).1) (fun i hi => (HCS.out i hi).2)⟩, hxe⟩
      clear hrow
      go_wp2
      go_ret
      exact HT.out
/-- A routine's copy. -/
def RetR (w : World) (h : Int) (n : Nat) (ps : List (List Int × Int)) (e : Ending) (w' : World) : Prop :=
  ∃ A c, e = .returned (.agg #[.int .i64 h, .slice A n c]) ∧ PRow w' w.heap.size w'.heap.size A n c ps ∧ Ext w w'
set_option maxHeartbeats 1000000 in
theorem toRoutine_row (A : Option Addr) (n c : Nat) (ps : List (List Int × Int)) (h : Int) (w : World) (hP : Parts w A n ps) (hn : n ≤ 1048576) (hm : ∀ i, i < n → (pt ps i).length ≤ 1048576) :
    Calls Tryd.prog 8 #[.agg #[.int .i64 h, .slice A n c]] w (RetR w h n ps) := by
  have HM := Lib.hid hm
  clear hm
  go_enter Tryd.func8, Tryd.ntmps8
  go_wp2_with fail
  (with_reducible refine (toPartS_row _ n _ ps _ (hP.ext (by with_reducible (repeat (first | exact Ext.refl _ | apply Ext.drewN | apply Ext.drew | apply Ext.alloc | (refine Ext.set ?_ (by first | (simp; done) | (simp; omega) | omega) _) | (refine Ext.trans ?_ (by assumption)))))) hn HM.out).mono ?_)
  rintro e w1 ⟨A1, c1, rfl, P1, hx⟩
  have hz := hx.size
  (try simp at hz)
  have q0 : w.heap.size < w1.heap.size := by omega
  have q1 : w.heap.size + 1 < w1.heap.size := by omega
  have q2 : w.heap.size + 1 + 1 < w1.heap.size := by omega
  have k0 : ∀ o, w1.cell? ⟨w.heap.size, o, none⟩ = _ := fun o => hx.cells.1 _ o (by first | (simp; done) | (simp; omega) | omega)
  have k1 : ∀ o, w1.cell? ⟨w.heap.size + 1, o, none⟩ = _ := fun o => hx.cells.1 _ o (by first | (simp; done) | (simp; omega) | omega)
  have k2 : ∀ o, w1.cell? ⟨w.heap.size + 1 + 1, o, none⟩ = _ := fun o => hx.cells.1 _ o (by first | (simp; done) | (simp; omega) | omega)
  have f1 : ∀ o, w1.frozen? ⟨w.heap.size + 1, o, none⟩ = _ := fun o => hx.cells.2 _ o (by first | (simp; done) | (simp; omega) | omega)
  have f2 : ∀ o, w1.frozen? ⟨w.heap.size + 1 + 1, o, none⟩ = _ := fun o => hx.cells.2 _ o (by first | (simp; done) | (simp; omega) | omega)
  have HP : Hid (PRow w1 (w.heap.size + 3) w1.heap.size A1 n c1 ps) := by show PRow _ _ _ _ _ _ _; simpa using P1
  clear P1
  go_wp2
  refine bodyPost_ret (v := .agg #[.int .i64 h, .slice A1 n c1]) (by simp [results, Tryd.results8, go_sem, *]) rfl ⟨A1, c1, rfl, ?_, (by with_reducible (repeat (first | exact Ext.refl _ | apply Ext.drewN | apply Ext.drew | apply Ext.alloc | (refine Ext.set ?_ (by first | (simp; done) | (simp; omega) | omega) _) | (refine Ext.trans ?_ (by assumption)))))⟩
  refine PRow.wide (lo := w.heap.size + 3) (hi := w1.heap.size) ?_ (by omega) (by simp [World.setCell])
  repeat' apply PRow.far
  · exact HP.out
  all_goals (first | (simp [World.setCell]; done) | (simp [World.setCell]; omega))
set_option maxHeartbeats 1000000 in
theorem heldPartS_any (A : Option Addr) (n c : Nat) (f : Nat → Nat) (k : Int) (w : World) (hI : Parts w A n (mkP k n f)) (hk : 0 ≤ k ∧ k ≤ 1000) (hn : n ≤ 1048576) (hf : ∀ i, i < n → f i ≤ 1048576) :
    Calls Tryd.prog 37 #[.slice A n c, .int .i64 k] w fun e w' => e = .returned (.int .i64 (k + sm f n)) ∧ Ext w w' := by
  have HF := Lib.hid hf
  clear hf
  have hend := sm_lt HF.out hn (Nat.le_refl _)
  go_enter Tryd.func37, Tryd.ntmps37
  go_wp2
  go_loopw [1, 5] (fun s i wr => ∃ j : Nat, j ≤ n ∧ i = .int .i64 j ∧ s = .int .i64 (k + sm f j) ∧ Ext w wr) (fun _ i _ => n - (intOf i).toNat)
  case atStart => exact ⟨0, Nat.zero_le _, rfl, by simp [sm], Ext.refl _⟩
  case round =>
    obtain ⟨j, hj, rfl, rfl, hx⟩ := hrel
    by_cases hlt : j < n
    · obtain ⟨b, off, hA, hb, hcell⟩ := (hI.ext hx).at_ (by omega)
      subst hA
      have hji : (j : Int) < n := by omega
      obtain ⟨B, m, d, hc0, hc1, hJ⟩ := hcell j hlt
      rw [mkP_pt hlt] at hJ
      rw [mkP_tm hlt] at hc1
      have hbd := sm_lt HF.out hn (j := j) (by omega)
      have hfj := HF.out j hlt
      have HS : Hid (sm f (j + 1) = sm f j + f j + 1) := rfl
      clear hcell
      have hm := hJ.len
      rw [marks_len] at hm
      subst hm
      generalize hz : sm f j = z at *
      obtain ⟨q, hq⟩ : ∃ q, f j = q := ⟨_, rfl⟩
      rw [hq] at hJ hc0 hc1 hfj
      have HJ : Hid (∀ W, Ext wr W → Ints W B (q * 1) (marks (k + z) (q * 1))) := fun W hW => by rw [Nat.mul_one]; exact hJ.ext hW
      have hng : ¬ k + z + (q : Int) < 0 := by omega
      go_wp2_with fail
      (with_reducible refine (heldInt64S_is B q d (k + z) (k + z + q) _ (HJ.out _ (by with_reducible (repeat (first | exact Ext.refl _ | apply Ext.drewN | apply Ext.drew | apply Ext.alloc | (refine Ext.set ?_ (by first | (simp; done) | (simp; omega) | omega) _) | (refine Ext.trans ?_ (by assumption)))))) (by omega) hfj (by simp)).mono ?_)
      rintro e w2 ⟨rfl, nq, rfl⟩
      go_wp2
      go_roundw
      case rel => exact ⟨j + 1, by omega, by go_num, by rw [HS.out, hq]; go_num, (by with_reducible (repeat (first | exact Ext.refl _ | apply Ext.drewN | apply Ext.drew | apply Ext.alloc | (refine Ext.set ?_ (by first | (simp; done) | (simp; omega) | omega) _) | (refine Ext.trans ?_ (by assumption)))))⟩
      case measure => simp [intOf]; omega
    · obtain rfl : j = n := by omega
      go_wp2
      go_ret
      exact ⟨rfl, (by with_reducible (repeat (first | exact Ext.refl _ | apply Ext.drewN | apply Ext.drew | apply Ext.alloc | (refine Ext.set ?_ (by first | (simp; done) | (simp; omega) | omega) _) | (refine Ext.trans ?_ (by assumption)))))⟩
theorem heldRoutine_any (A : Option Addr) (n c : Nat) (f : Nat → Nat) (h k : Int) (w : World) (hI : Parts w A n (mkP k n f)) (hk : 0 ≤ k ∧ k ≤ 1000) (hn : n ≤ 1048576) (hf : ∀ i, i < n → f i ≤ 1048576) :
    Calls Tryd.prog 14 #[.agg #[.int .i64 h, .slice A n c], .int .i64 k] w fun e w' => e = .returned (.int .i64 (k + sm f n)) ∧ Ext w w' := by
  have HF := Lib.hid hf
  clear hf
  have hend := sm_lt HF.out hn (Nat.le_refl _)
  generalize hz : sm f n = z at *
  go_enter Tryd.func14, Tryd.ntmps14
  go_wp2_with fail
  (with_reducible refine (heldPartS_any _ n _ f k _ (hI.ext (by with_reducible (repeat (first | exact Ext.refl _ | apply Ext.drewN | apply Ext.drew | apply Ext.alloc | (refine Ext.set ?_ (by first | (simp; done) | (simp; omega) | omega) _) | (refine Ext.trans ?_ (by assumption)))))) hk hn HF.out).mono ?_)
  rw [hz]
  rintro e w1 ⟨rfl, hx⟩
  have hng : ¬ k + z < 0 := by omega
  go_wp2
  go_ret
  exact ⟨rfl, Ext.trans (by with_reducible (repeat (first | exact Ext.refl _ | apply Ext.drewN | apply Ext.drew | apply Ext.alloc | (refine Ext.set ?_ (by first | (simp; done) | (simp; omega) | omega) _) | (refine Ext.trans ?_ (by assumption))))) hx⟩
/-- What a mark of parts does. -/
def MarkdR (w : World) (lo hi : Nat) (A : Option Addr) (n c : Nat) (f : Nat → Nat) (k : Int) (en : Ending) (w' : World) : Prop :=
  en = .returned (.int .i64 (k + sm f n)) ∧ Kept lo hi w w' ∧ PRow w' lo hi A n c (mkP k n f)
set_option maxHeartbeats 4000000 in
theorem markPartS_own (lo hi : Nat) (A : Option Addr) (n c : Nat) (k : Int) (ps : List (List Int × Int)) (w : World) (hO : PRow w lo hi A n c ps) (hk : 0 ≤ k ∧ k ≤ 1000) (hn : n ≤ 1048576) (f : Nat → Nat) (hf : ∀ i, i < n → (pt ps i).length = f i ∧ f i ≤ 1048576) :
    Calls Tryd.prog 36 #[.slice A n c, .int .i64 k] w (MarkdR w lo hi A n c f k) := by
  have HF := Lib.hid hf
  clear hf
  have HF2 : Hid (∀ i, i < n → f i ≤ 1048576) := fun i hi => (HF.out i hi).2
  have hend := sm_lt HF2.out hn (Nat.le_refl _)
  obtain ⟨H, hR⟩ := hO.rows
  clear hO
  go_enter Tryd.func36, Tryd.ntmps36
  go_wp2
  go_loopw [1, 5] (fun s i wr => ∃ j : Nat, j ≤ n ∧ i = .int .i64 j ∧ s = .int .i64 (k + sm f j) ∧ Kept lo hi w wr ∧ ∃ X T, PRowF wr lo hi A n c H X T ∧ (∀ i, i < n → (X i).length = f i) ∧ ∀ i, i < j → X i = marks (k + sm f i) (f i) ∧ T i = k + sm f i + f i) (fun _ i _ => n - (intOf i).toNat)
  case atStart => exact ⟨0, Nat.zero_le _, rfl, by simp [sm], Kept.of_ext (Ext.refl _), _, _, hR, fun i hi => (HF.out i hi).1, fun i h => absurd h (by omega)⟩
  case round =>
    obtain ⟨j, hj, rfl, rfl, hg, X, T, hrow, hXl, hcs⟩ := hrel
    have HCS := Lib.hid hcs
    have HXL := Lib.hid hXl
    clear hcs hR hXl
    by_cases hlt : j < n
    · obtain ⟨g, rfl, hgs, hg0, hg1⟩ := hrow.form (by omega)
      have hji : (j : Int) < n := by omega
      have hbd := sm_lt HF2.out hn (j := j) (by omega)
      have hfj := HF2.out j hlt
      have HS : Hid (sm f (j + 1) = sm f j + f j + 1) := rfl
      have HG := Lib.hid hg
      clear hg
      obtain ⟨d0, d1, f0, f1⟩ := hrow.cells hlt
      have hRj := hrow.rows j hlt
      rw [HXL.out j hlt] at d0 hRj
      obtain ⟨z, hz⟩ : ∃ z, sm f j = z := ⟨_, rfl⟩
      obtain ⟨q, hq⟩ : ∃ q, f j = q := ⟨_, rfl⟩
      obtain ⟨B, hB⟩ : ∃ B, (H j).1 = B := ⟨_, rfl⟩
      obtain ⟨d, hd⟩ : ∃ d, (H j).2 = d := ⟨_, rfl⟩
      rw [hz] at hbd
      rw [hq] at hfj
      rw [hq, hB, hd] at d0 hRj
      rw [hz]
      go_wp2_with fail
      (with_reducible refine (markInt64S_own lo hi B q d (k + z) _ _ (hRj.ext (by with_reducible (repeat (first | exact Ext.refl _ | apply Ext.drewN | apply Ext.drew | apply Ext.alloc | (refine Ext.set ?_ (by first | (simp; done) | (simp; omega) | omega) _) | (refine Ext.trans ?_ (by assumption)))))) (by omega) hfj).mono ?_)
      rintro e w2 ⟨K, rfl, rfl, hg2, R2⟩
      have hrow2 := (hrow.ext (w' := _) (by first | exact Ext.refl _ | exact (by with_reducible (repeat (first | exact Ext.refl _ | apply Ext.drewN | apply Ext.drew | apply Ext.alloc | (refine Ext.set ?_ (by first | (simp; done) | (simp; omega) | omega) _) | (refine Ext.trans ?_ (by assumption))))))).rewrite hlt (Z := marks (k + z) (q * 1)) (by rw [marks_len, HXL.out j hlt, hq, Nat.mul_one]) (by rw [hB]; exact hg2) (by rw [hB, hd, HXL.out j hlt, hq]; exact R2)
      obtain ⟨e0, e1, g0', g1'⟩ := hrow2.cells hlt
      have hkp : Kept lo hi wr w2 := (Kept.of_ext (by with_reducible (repeat (first | exact Ext.refl _ | apply Ext.drewN | apply Ext.drew | apply Ext.alloc | (refine Ext.set ?_ (by first | (simp; done) | (simp; omega) | omega) _) | (refine Ext.trans ?_ (by assumption)))))).trans (Kept.of_grown hg2 (fun g' hg' => hRj.row_bd g' hg'))
      rw [Nat.mul_one] at *
      have hr3 := hrow2.number hlt (k + z + q)
      have HN := Lib.hid hr3
      have HK := Lib.hid (HG.out.trans hkp)
      clear hrow hrow2 hr3 hRj R2 hg2 e0 g0' d0 d1 f0 f1 hkp
      go_wp2
      go_roundw
      case rel =>
        refine ⟨j + 1, by omega, by go_num, by rw [HS.out, hz, hq]; go_num, ?_, _, _, HN.out, fun i hi => ?_, fun i hi => ?_⟩
        · exact HK.out.trans (Kept.of_grown (row := some g) (only_setCell (World.grownBy.refl _ _) rfl _) (fun g' hg' => by cases hg'; omega))
        · by_cases e : i = j
          · subst e; rw [upd_self, marks_len, hq]
          · rw [upd_ne _ _ e]; exact HXL.out i hi
        · by_cases e : i = j
          · subst e; rw [upd_self, upd_self, hz, hq]; exact ⟨rfl, rfl⟩
          · rw [upd_ne _ _ e, upd_ne _ _ e]; exact HCS.out i (by omega)
      case measure => simp [intOf]; omega
    · obtain rfl : j = n := by omega
      have HT : Hid (MarkdR w lo hi A j c f k (.returned (.int .i64 (k + sm f j))) wr) := ⟨rfl, hg, mkP_len _ _ _, H, hrow.congr (fun i hi => by rw [mkP_pt hi]; exact (HCS.out i hi).1) (fun i hi => by rw [mkP_tm hi]; exact (HCS.out i hi).2)⟩
      clear hg hrow
      go_wp2
      go_ret
      exact HT.out
set_option maxHeartbeats 1000000 in
theorem markRoutine_own (lo hi : Nat) (A : Option Addr) (n c : Nat) (h k : Int) (ps : List (List Int × Int)) (w : World) (hO : PRow w lo hi A n c ps) (hk : 0 ≤ k ∧ k ≤ 1000) (hn : n ≤ 1048576) (f : Nat → Nat) (hf : ∀ i, i < n → (pt ps i).length = f i ∧ f i ≤ 1048576) (hhi : hi ≤ w.heap.size) :
    Calls Tryd.prog 13 #[.agg #[.int .i64 h, .slice A n c], .int .i64 k] w (MarkdR w lo hi A n c f k) := by
  have HF := Lib.hid hf
  clear hf
  go_enter Tryd.func13, Tryd.ntmps13
  go_wp2_with fail
  (with_reducible refine (markPartS_own lo hi _ n _ k ps _ (hO.ext (by with_reducible (repeat (first | exact Ext.refl _ | apply Ext.drewN | apply Ext.drew | apply Ext.alloc | (refine Ext.set ?_ (by first | (simp; done) | (simp; omega) | omega) _) | (refine Ext.trans ?_ (by assumption)))))) hk hn f HF.out).mono ?_)
  rintro e w1 ⟨rfl, hk1, R1⟩
  have HT : Hid (MarkdR w lo hi A n c f k (.returned (.int .i64 (k + sm f n))) w1) := ⟨rfl, (Kept.of_ext (by with_reducible (repeat (first | exact Ext.refl _ | apply Ext.drewN | apply Ext.drew | apply Ext.alloc | (refine Ext.set ?_ (by first | (simp; done) | (simp; omega) | omega) _) | (refine Ext.trans ?_ (by assumption)))))).trans hk1, R1⟩
  clear hk1 R1
  generalize sm f n = z at *
  go_wp2
  go_ret
  exact HT.out
end Go.Proofs.YtinkaglngblddaaDoor
