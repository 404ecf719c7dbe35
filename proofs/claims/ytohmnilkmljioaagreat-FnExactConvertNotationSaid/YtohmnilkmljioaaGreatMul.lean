/- Beats of multiplex patterns: the laws' sizes, copies, comparisons and marks of rows of rows of numbers and of structs that hold them. No condition but the stated bounds. -/
import Derived.Test.YtohmnilkmljioaaGreatIlr
import Derived.Test.YtohmnilkmljioaaGreatSyn
namespace Go.Proofs.YtohmnilkmljioaaGreat
set_option linter.unusedVariables false
set_option linter.unusedSimpArgs false
open Go.ChangeShapes Go.WideShapes Go.ChangeAt Go.RowKit Go.Joins Go.Deep

theorem szInt64S_left (A : Option Addr) (m c : Nat) (r : Int) (w : World) (hm : m ≤ 9223372036854775807) (hr : 0 ≤ r ∧ r ≤ 1048576) :
    Calls Tryz.prog 11 #[.slice A m c, .int .i64 r] w (Left (m ≤ 1048576) w) := by
  by_cases h : r < m
  · go_enter Tryz.func11, Tryz.ntmps11
    go_wp2
    go_ret
    exact ⟨-1, rfl, .inl (by omega), (by with_reducible (repeat (first | exact Ext.refl _ | apply Ext.drewN | apply Ext.drew | apply Ext.alloc | (refine Ext.set ?_ (by first | (simp; done) | (simp; omega) | omega) _) | (refine Ext.trans ?_ (by assumption)))))⟩
  · go_enter Tryz.func11, Tryz.ntmps11
    go_wp2
    go_ret
    exact ⟨r - m, rfl, .inr ⟨by omega, by omega, by omega⟩, (by with_reducible (repeat (first | exact Ext.refl _ | apply Ext.drewN | apply Ext.drew | apply Ext.alloc | (refine Ext.set ?_ (by first | (simp; done) | (simp; omega) | omega) _) | (refine Ext.trans ?_ (by assumption)))))⟩
set_option maxHeartbeats 1000000 in
theorem szInt64SS_left (A : Option Addr) (n c : Nat) (L : List (List Int)) (r : Int) (w : World) (hI : Lists w A n L) (hr : 0 ≤ r ∧ r ≤ 1048576) :
    Calls Tryz.prog 44 #[.slice A n c, .int .i64 r] w (Left (n ≤ 1048576 ∧ ∀ i, i < n → (ll L i).length ≤ 1048576) w) := by
  have hsm := hI.small
  by_cases h : r < n
  · go_enter Tryz.func44, Tryz.ntmps44
    go_wp2
    go_ret
    exact ⟨-1, rfl, .inl (by omega), (by with_reducible (repeat (first | exact Ext.refl _ | apply Ext.drewN | apply Ext.drew | apply Ext.alloc | (refine Ext.set ?_ (by first | (simp; done) | (simp; omega) | omega) _) | (refine Ext.trans ?_ (by assumption)))))⟩
  · go_enter Tryz.func44, Tryz.ntmps44
    go_wp2
    go_loopw [1, 5] (fun s i wr => ∃ (k : Nat) (q : Int), k ≤ n ∧ i = .int .i64 k ∧ s = .int .i64 q ∧ (0 ≤ q ∧ q ≤ 1048576) ∧ (∀ i, i < k → (ll L i).length ≤ 1048576) ∧ Ext w wr) (fun _ i _ => n - (intOf i).toNat)
    case atStart => exact ⟨0, r - n, Nat.zero_le _, rfl, rfl, by omega, fun i hi => absurd hi (by omega), Ext.refl _⟩
    case round =>
      obtain ⟨j, q, hj, rfl, rfl, hq, hle, hx⟩ := hrel
      have HL := Lib.hid hle
      clear hle
      by_cases hlt : j < n
      · obtain ⟨b, off, hA, hb, hcell⟩ := (hI.ext hx).at_ (by omega)
        subst hA
        have hji : (j : Int) < n := by omega
        obtain ⟨B, m, d, hc0, hJ⟩ := hcell j hlt
        have hm := hJ.small
        have hlen := hJ.len
        clear hcell
        go_wp2_with fail
        (with_reducible refine (szInt64S_left B m d q _ hm hq).mono ?_)
        rintro e w2 ⟨q2, rfl, hq2, hx2⟩
        by_cases hneg : q2 < 0
        · go_wp2
          go_ret
          exact ⟨-1, rfl, .inl (by omega), hx.trans hx2⟩
        · have hq3 : 0 ≤ q2 ∧ q2 ≤ 1048576 ∧ m ≤ 1048576 := by omega
          go_wp2
          go_roundw
          case rel =>
            refine ⟨j + 1, q2, by omega, by go_num, rfl, ⟨hq3.1, hq3.2.1⟩, fun i hi => ?_, hx.trans hx2⟩
            by_cases e : i = j
            · subst e; rw [hlen]; exact hq3.2.2
            · exact HL.out i (by omega)
          case measure => simp [intOf]; omega
      · obtain rfl : j = n := by omega
        go_wp2
        go_ret
        exact ⟨q, rfl, .inr ⟨hq.1, hq.2, by omega, HL.out⟩, hx⟩
set_option maxHeartbeats 1000000 in
theorem szMulti_left (A : Option Addr) (n c : Nat) (L : List (List Int)) (r : Int) (w : World) (hI : Lists w A n L) (hr : 0 ≤ r ∧ r ≤ 1048576) :
    Calls Tryz.prog 12 #[.agg #[.slice A n c], .int .i64 r] w (Left (n ≤ 1048576 ∧ ∀ i, i < n → (ll L i).length ≤ 1048576) w) := by
  go_enter Tryz.func12, Tryz.ntmps12
  go_wp2_with fail
  (with_reducible refine (szInt64SS_left A n c L r _ (hI.ext (by with_reducible (repeat (first | exact Ext.refl _ | apply Ext.drewN | apply Ext.drew | apply Ext.alloc | (refine Ext.set ?_ (by first | (simp; done) | (simp; omega) | omega) _) | (refine Ext.trans ?_ (by assumption)))))) hr).mono ?_)
  rintro e w2 ⟨q2, rfl, hq2, hx2⟩
  have hE : Ext w w2 := Ext.trans (by with_reducible (repeat (first | exact Ext.refl _ | apply Ext.drewN | apply Ext.drew | apply Ext.alloc | (refine Ext.set ?_ (by first | (simp; done) | (simp; omega) | omega) _) | (refine Ext.trans ?_ (by assumption))))) hx2
  clear hx2
  by_cases hneg : q2 < 0
  · go_wp2
    go_ret
    exact ⟨-1, rfl, .inl (by omega), hE⟩
  · have hq3 := hq2.resolve_left hneg
    go_wp2
    go_ret
    exact ⟨q2, rfl, hq2, hE⟩
theorem infoRow : (Tryz.prog.info? 22).map (fun i => (i.zero, i.size, i.bytes)) = some (some (.slice none 0 0), 1, 24) := by kernel_rfl
theorem run_make_rows (n : Nat) (hn : n ≤ 1048576) (w : World) :
    (Instr.makeSlice 23 (.int .i64 (n : Int)) (.int .i64 (n : Int))).run Tryz.prog w = .ok (.slice (some ⟨w.heap.size, 0, none⟩) n n) (w.alloc (.cells (madeCells #[.slice none 0 0] n) 22)) := by
  obtain ⟨i, hi, hzz⟩ := Option.map_eq_some_iff.1 infoRow
  simp only [Prod.mk.injEq] at hzz
  obtain ⟨hz, hs, hb⟩ := hzz
  have hr := run_make (P := Tryz.prog) w 23 22 i _ Tryz.underlying23 hi hz .i64 .i64 n n (by omega) (Int.le_refl _) (by rw [hb]; omega) (by omega)
  simp only [Int.toNat_natCast, hs, Nat.mul_one] at hr
  exact hr
/-- A new row in a place of the row of rows. -/
theorem LRowF.put {w w' : World} {lo hi g n c m d : Nat} {H : Nat → Option Addr × Nat} {X : Nat → List Int} {B : Option Addr} {Z : List Int} {j : Nat}
    (h : LRowF w lo hi (some ⟨g, 0, none⟩) n c H X) (hj : j < n) (hlh : lo ≤ hi) (hh : hi ≤ w.heap.size) (k : Ext w w') (R : Row w' w.heap.size w'.heap.size 2 1 B m d Z) (hm : Z.length = m) :
    LRowF (w'.setCell ⟨g, j, none⟩ (.slice B m d)) lo w'.heap.size (some ⟨g, 0, none⟩) n c (upd H j (B, d)) (upd X j Z) := by
  subst hm
  have hz := k.size
  obtain ⟨cs, hr, hc⟩ := h.row
  have hg := hr.row_bd g rfl
  have hl := hr.len
  have hold : ∀ i, i < n → ∀ q, (H i).1.map (·.block) = some q → lo ≤ q ∧ q < hi := fun i hi q hq => (h.rows i hi).row_bd q hq
  refine ⟨⟨cs.set j (.slice B Z.length d), ((hr.ext k).store j _).wide (Nat.le_refl _) (by omega), fun i hi => ?_⟩, fun i hi => ?_, fun i i' hi hi' hne q hq => ?_, fun i hi q hq => ?_⟩
  · by_cases e : i = j
    · subst e
      rw [upd_self, upd_self, List.getElem?_set_self (by omega)]
    · rw [upd_ne _ _ e, upd_ne _ _ e, List.getElem?_set_ne (fun e' => e e'.symm)]
      exact hc i hi
  · by_cases e : i = j
    · subst e
      rw [upd_self, upd_self]
      refine (R.otherCell (fun e' => ?_) _).wide (by omega) (Nat.le_refl _)
      have := R.row_bd _ e'
      simp at this
      omega
    · rw [upd_ne _ _ e, upd_ne _ _ e]
      refine (((h.rows i hi).ext k).otherCell (fun e' => ?_) _).wide (Nat.le_refl _) (by omega)
      exact h.alone i hi g e' rfl
  · by_cases e : i = j
    · subst e
      rw [upd_self] at hq
      rw [upd_ne _ _ (fun e' => hne e'.symm)]
      intro h2
      have h3 := hold i' hi' q h2
      have h4 := R.row_bd q hq
      omega
    · rw [upd_ne _ _ e] at hq
      have h3 := hold i hi q hq
      by_cases e2 : i' = j
      · subst e2
        rw [upd_self]
        intro h2
        have h4 := R.row_bd q h2
        omega
      · rw [upd_ne _ _ e2]
        exact h.apart i i' hi hi' hne q hq
  · by_cases e : i = j
    · subst e
      rw [upd_self] at hq
      have h4 := R.row_bd q hq
      intro h2
      simp at h2
      omega
    · rw [upd_ne _ _ e] at hq
      exact h.alone i hi q hq
/-- What hands back rows of numbers. -/
def RetLL2 (w : World) (n : Nat) (L : List (List Int)) (e : Ending) (w' : World) : Prop := ∃ A c, e = .returned (.slice A n c) ∧ LRow w' w.heap.size w'.heap.size A n c L ∧ Ext w w'
set_option maxHeartbeats 2000000 in
theorem toInt64SS_row (A : Option Addr) (n c : Nat) (L : List (List Int)) (w : World) (hI : Lists w A n L) (hn : n ≤ 1048576) (hL : ∀ i, i < n → (ll L i).length ≤ 1048576) :
    Calls Tryz.prog 60 #[.slice A n c] w (RetLL2 w n L) := by
  have HL := Lib.hid hL
  clear hL
  have hmk := fun W => run_make_rows n hn W
  have hR0 : LRowF (w.alloc (.cells (madeCells #[.slice none 0 0] n) 22)) w.heap.size (w.heap.size + 1) (some ⟨w.heap.size, 0, none⟩) n n (fun _ => (none, 0)) (fun _ => []) := by
    refine ⟨⟨(madeCells #[.slice none 0 0] n).toList, ⟨⟨by simp [size_madeCells], .inr ⟨w.heap.size, n, madeCells #[.slice none 0 0] n, rfl, Nat.le_refl _, heap_alloc_new _ _, Nat.le_refl _, by unfold maxLen; omega, by simp [size_madeCells], ?_⟩⟩, fun a ha => by cases ha; simp⟩, fun i hi => ?_⟩, fun i hi => Row.nil _ _ _ _ _, fun i j hi hj hne g hg => by simp at hg, fun i hi g hg => by simp at hg⟩
    · exact List.take_of_length_le (by simp [size_madeCells])
    · simp [madeCells, hi, Nat.mod_one]
  go_enter Tryz.func60, Tryz.ntmps60
  go_wp2
  clear hmk
  go_loopw [4] (fun i wr => ∃ k : Nat, k ≤ n ∧ i = .int .i64 k ∧ Ext w wr ∧ w.heap.size < wr.heap.size ∧ ∃ H X, LRowF wr w.heap.size wr.heap.size (some ⟨w.heap.size, 0, none⟩) n n H X ∧ (∀ i, i < k → X i = ll L i)) (fun i _ => n - (intOf i).toNat)
  case atStart => exact ⟨0, Nat.zero_le _, rfl, (Ext.refl _).alloc _, by simp, _, _, hR0.wide (Nat.le_refl _) (by simp), fun i hi => absurd hi (by omega)⟩
  case round =>
    obtain ⟨k, hk, rfl, hxe, hbig, H, X, hrow, hcs⟩ := hrel
    have HCS := Lib.hid hcs
    clear hcs hR0
    by_cases hlt : k < n
    · obtain ⟨b, off, hA, hb, hcell⟩ := (hI.ext hxe).at_ (by omega)
      subst hA
      obtain ⟨B, m, d, hc0, hJ⟩ := hcell k hlt
      have hki : (k : Int) < n := by omega
      have hm : m ≤ 1048576 := by have := HL.out k hlt; rw [hJ.len] at this; exact this
      have hlen := hJ.len
      obtain ⟨Z, hZ⟩ : ∃ Z, ll L k = Z := ⟨_, rfl⟩
      rw [hZ] at hJ hlen
      have HZ := Lib.hid hZ
      clear hcell hZ
      go_wp2_with fail
      (with_reducible refine (toInt64S_row B m d Z _ (hJ.ext (by with_reducible (repeat (first | exact Ext.refl _ | apply Ext.drewN | apply Ext.drew | apply Ext.alloc | (refine Ext.set ?_ (by first | (simp; done) | (simp; omega) | omega) _) | (refine Ext.trans ?_ (by assumption)))))) hm).mono ?_)
      rintro e w2 ⟨B2, d2, rfl, hr2, hx2⟩
      have hz2 := hx2.size
      (try simp at hz2)
      have hput := hrow.put hlt (by omega) (Nat.le_refl _) (Ext.trans (by with_reducible (repeat (first | exact Ext.refl _ | apply Ext.drewN | apply Ext.drew | apply Ext.alloc | (refine Ext.set ?_ (by first | (simp; done) | (simp; omega) | omega) _) | (refine Ext.trans ?_ (by assumption))))) hx2) hr2 hlen
      obtain ⟨d0, f0⟩ := (hrow.ext (Ext.trans (by with_reducible (repeat (first | exact Ext.refl _ | apply Ext.drewN | apply Ext.drew | apply Ext.alloc | (refine Ext.set ?_ (by first | (simp; done) | (simp; omega) | omega) _) | (refine Ext.trans ?_ (by assumption))))) hx2)).cells hlt
      have hxn : Ext w (w2.setCell ⟨w.heap.size, k, none⟩ (.slice B2 m d2)) := (hxe.trans (Ext.trans (by with_reducible (repeat (first | exact Ext.refl _ | apply Ext.drewN | apply Ext.drew | apply Ext.alloc | (refine Ext.set ?_ (by first | (simp; done) | (simp; omega) | omega) _) | (refine Ext.trans ?_ (by assumption))))) hx2)).set (Nat.le_refl _) _
      have HXN := Lib.hid hxn
      have HP := Lib.hid hput
      clear hxn hput hrow hr2
      go_wp2
      go_roundw
      case rel =>
        refine ⟨k + 1, by omega, by go_num, HXN.out, by simp [World.setCell]; omega, _, _, by simpa [World.setCell] using HP.out, fun i hi => ?_⟩
        by_cases e : i = k
        · subst e; rw [upd_self]; exact HZ.out.symm
        · rw [upd_ne _ _ e]; exact HCS.out i (by omega)
      case measure => simp [intOf]; omega
    · obtain rfl : k = n := by omega
      have HT : Hid (RetLL2 w k L (.returned (.slice (some ⟨w.heap.size, 0, none⟩) k k)) wr) := ⟨_, _, rfl, ⟨hI.len, H, hrow.congr (fun i hi => HCS.out i hi)⟩, hxe⟩
      go_wp2
      go_ret
      exact HT.out
/-- What hands back a struct of rows of numbers. -/
def RetMu (w : World) (n : Nat) (L : List (List Int)) (e : Ending) (w' : World) : Prop := ∃ A c, e = .returned (.agg #[.slice A n c]) ∧ LRow w' w.heap.size w'.heap.size A n c L ∧ Ext w w'
set_option maxHeartbeats 2000000 in
theorem toMulti_row (A : Option Addr) (n c : Nat) (L : List (List Int)) (w : World) (hI : Lists w A n L) (hn : n ≤ 1048576) (hL : ∀ i, i < n → (ll L i).length ≤ 1048576) :
    Calls Tryz.prog 21 #[.agg #[.slice A n c]] w (RetMu w n L) := by
  go_enter Tryz.func21, Tryz.ntmps21
  go_wp2_with fail
  (with_reducible refine (toInt64SS_row A n c L _ (hI.ext (by with_reducible (repeat (first | exact Ext.refl _ | apply Ext.drewN | apply Ext.drew | apply Ext.alloc | (refine Ext.set ?_ (by first | (simp; done) | (simp; omega) | omega) _) | (refine Ext.trans ?_ (by assumption)))))) hn hL).mono ?_)
  rintro e w1 ⟨A1, c1, rfl, hr1, hx1⟩
  have hz1 := hx1.size
  (try simp [World.setCell] at hz1)
  have q10 : w.heap.size < w1.heap.size := by omega
  have k10 : ∀ o, w1.cell? ⟨w.heap.size, o, none⟩ = _ := fun o => hx1.cells.1 _ o (by first | (simp [World.setCell]; done) | (simp [World.setCell]; omega) | omega)
  have f10 : ∀ o, w1.frozen? ⟨w.heap.size, o, none⟩ = _ := fun o => hx1.cells.2 _ o (by first | (simp [World.setCell]; done) | (simp [World.setCell]; omega) | omega)
  have q11 : w.heap.size + 1 < w1.heap.size := by omega
  have k11 : ∀ o, w1.cell? ⟨w.heap.size + 1, o, none⟩ = _ := fun o => hx1.cells.1 _ o (by first | (simp [World.setCell]; done) | (simp [World.setCell]; omega) | omega)
  have f11 : ∀ o, w1.frozen? ⟨w.heap.size + 1, o, none⟩ = _ := fun o => hx1.cells.2 _ o (by first | (simp [World.setCell]; done) | (simp [World.setCell]; omega) | omega)
  have q12 : w.heap.size + 1 + 1 < w1.heap.size := by omega
  have k12 : ∀ o, w1.cell? ⟨w.heap.size + 1 + 1, o, none⟩ = _ := fun o => hx1.cells.1 _ o (by first | (simp [World.setCell]; done) | (simp [World.setCell]; omega) | omega)
  have f12 : ∀ o, w1.frozen? ⟨w.heap.size + 1 + 1, o, none⟩ = _ := fun o => hx1.cells.2 _ o (by first | (simp [World.setCell]; done) | (simp [World.setCell]; omega) | omega)
  have hE1 : Ext w w1 := Ext.trans (by with_reducible (repeat (first | exact Ext.refl _ | apply Ext.drewN | apply Ext.drew | apply Ext.alloc | (refine Ext.set ?_ (by first | (simp; done) | (simp; omega) | omega) _) | (refine Ext.trans ?_ (by assumption))))) hx1
  clear hx1
  simp [World.setCell] at hr1
  have HR : Hid (LRow w1 (w.heap.size + 3) w1.heap.size A1 n c1 L) := hr1
  clear hr1
  go_wp2
  have HF := Lib.hid ((HR.out.far (p := ⟨w.heap.size + 1 + 1, 0, none⟩) (by first | (simp; done) | (simp; omega)) (.slice A1 n c1)).far (p := ⟨w.heap.size + 1, 0, none⟩) (by first | (simp; done) | (simp; omega)) (.slice A1 n c1))
  refine bodyPost_ret (v := .agg #[.slice A1 n c1]) (by simp [results, Tryz.results21, go_sem, *]) rfl ⟨A1, c1, rfl, ?_, (by with_reducible (repeat (first | exact Ext.refl _ | apply Ext.drewN | apply Ext.drew | apply Ext.alloc | (refine Ext.set ?_ (by first | (simp; done) | (simp; omega) | omega) _) | (refine Ext.trans ?_ (by assumption)))))⟩
  exact HF.out.wide (by omega) (by simp [World.setCell])
theorem eqMulti_same (A B : Option Addr) (n c d : Nat) (L : List (List Int)) (w : World) (hP : Lists w A n L) (hQ : Lists w B n L) :
    Calls Tryz.prog 33 #[.agg #[.slice A n c], .agg #[.slice B n d]] w (fun e w' => e = .returned (.bool true) ∧ Ext w w') := by
  go_enter Tryz.func33, Tryz.ntmps33
  go_wp2_with fail
  (with_reducible refine (eqInt64SS_same A B n c d L _ (hP.ext (by with_reducible (repeat (first | exact Ext.refl _ | apply Ext.drewN | apply Ext.drew | apply Ext.alloc | (refine Ext.set ?_ (by first | (simp; done) | (simp; omega) | omega) _) | (refine Ext.trans ?_ (by assumption)))))) (hQ.ext (by with_reducible (repeat (first | exact Ext.refl _ | apply Ext.drewN | apply Ext.drew | apply Ext.alloc | (refine Ext.set ?_ (by first | (simp; done) | (simp; omega) | omega) _) | (refine Ext.trans ?_ (by assumption))))))).mono ?_)
  rintro e w1 ⟨rfl, hx1⟩
  have hE : Ext w w1 := Ext.trans (by with_reducible (repeat (first | exact Ext.refl _ | apply Ext.drewN | apply Ext.drew | apply Ext.alloc | (refine Ext.set ?_ (by first | (simp; done) | (simp; omega) | omega) _) | (refine Ext.trans ?_ (by assumption))))) hx1
  go_wp2
  go_ret
  exact ⟨rfl, hE⟩
theorem markMulti_own (lo hi : Nat) (A : Option Addr) (n c : Nat) (k : Int) (L : List (List Int)) (w : World) (hO : LRow w lo hi A n c L) (hh : hi ≤ w.heap.size) (hk : 0 ≤ k ∧ k ≤ 2000000000000) (hn : n ≤ 1048576) (f : Nat → Nat) (hf : ∀ i, i < n → (ll L i).length = f i ∧ f i ≤ 1048576) :
    Calls Tryz.prog 37 #[.agg #[.slice A n c], .int .i64 k] w (MarkdL w lo hi A n c f k) := by
  go_enter Tryz.func37, Tryz.ntmps37
  go_wp2_with fail
  (with_reducible refine (markInt64SS_own lo hi A n c k L _ (hO.ext (by with_reducible (repeat (first | exact Ext.refl _ | apply Ext.drewN | apply Ext.drew | apply Ext.alloc | (refine Ext.set ?_ (by first | (simp; done) | (simp; omega) | omega) _) | (refine Ext.trans ?_ (by assumption)))))) hk hn f hf).mono ?_)
  rintro e w2 ⟨rfl, hkp, hr2⟩
  have HT : Hid (MarkdL w lo hi A n c f k (.returned (.int .i64 (k + sml f n))) w2) := ⟨rfl, (Kept.of_ext (by with_reducible (repeat (first | exact Ext.refl _ | apply Ext.drewN | apply Ext.drew | apply Ext.alloc | (refine Ext.set ?_ (by first | (simp; done) | (simp; omega) | omega) _) | (refine Ext.trans ?_ (by assumption)))))).trans hkp, hr2⟩
  clear hkp hr2
  go_wp2
  go_ret
  exact HT.out
theorem heldMulti_any (A : Option Addr) (n c : Nat) (f : Nat → Nat) (k : Int) (w : World) (hI : Lists w A n (mkL k n f)) (hk : 0 ≤ k ∧ k ≤ 2000000000000) (hn : n ≤ 1048576) (hf : ∀ i, i < n → f i ≤ 1048576) :
    Calls Tryz.prog 41 #[.agg #[.slice A n c], .int .i64 k] w fun e w' => e = .returned (.int .i64 (k + sml f n)) ∧ Ext w w' := by
  have hend := sml_lt hf hn (Nat.le_refl _)
  go_enter Tryz.func41, Tryz.ntmps41
  go_wp2_with fail
  (with_reducible refine (heldInt64SS_any A n c f k _ (hI.ext (by with_reducible (repeat (first | exact Ext.refl _ | apply Ext.drewN | apply Ext.drew | apply Ext.alloc | (refine Ext.set ?_ (by first | (simp; done) | (simp; omega) | omega) _) | (refine Ext.trans ?_ (by assumption)))))) hk hn hf).mono ?_)
  rintro e w2 ⟨rfl, hx2⟩
  have hE : Ext w w2 := Ext.trans (by with_reducible (repeat (first | exact Ext.refl _ | apply Ext.drewN | apply Ext.drew | apply Ext.alloc | (refine Ext.set ?_ (by first | (simp; done) | (simp; omega) | omega) _) | (refine Ext.trans ?_ (by assumption))))) hx2
  clear hx2
  have hng : ¬ k + sml f n < 0 := by omega
  go_wp2
  go_ret
  exact ⟨rfl, hE⟩
end Go.Proofs.YtohmnilkmljioaaGreat
