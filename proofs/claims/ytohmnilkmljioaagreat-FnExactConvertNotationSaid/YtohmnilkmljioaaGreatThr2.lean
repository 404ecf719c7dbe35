/- Throws of passing patterns: contracts of the laws' comparisons and marks. No condition but the stated bounds. -/
import Derived.Test.YtohmnilkmljioaaGreatThr
import Derived.Test.YtohmnilkmljioaaGreatRow
namespace Go.Proofs.YtohmnilkmljioaaGreat
set_option linter.unusedVariables false
set_option linter.unusedSimpArgs false
open Go.ChangeShapes Go.WideShapes Go.ChangeAt Go.RowKit Go.Joins Go.Deep

theorem eqPassThrow_same (v : Int) (p : Bool) (w : World) :
    Calls Tryz.prog 110 #[.agg #[.int .i64 v, .bool p], .agg #[.int .i64 v, .bool p]] w (fun e w' => e = .returned (.bool true) ∧ Ext w w') := by
  go_enter Tryz.func110, Tryz.ntmps110
  go_wp2
  go_ret
  exact ⟨rfl, (by with_reducible (repeat (first | exact Ext.refl _ | apply Ext.drewN | apply Ext.drew | apply Ext.alloc | (refine Ext.set ?_ (by first | (simp; done) | (simp; omega) | omega) _) | (refine Ext.trans ?_ (by assumption)))))⟩
set_option maxHeartbeats 1000000 in
theorem eqPassThrowS_same (A B : Option Addr) (n c d : Nat) (ts : List (Int × Bool)) (w : World) (hP : Thr w A n ts) (hQ : Thr w B n ts) :
    Calls Tryz.prog 80 #[.slice A n c, .slice B n d] w (fun e w' => e = .returned (.bool true) ∧ Ext w w') := by
  have hsm := hP.small
  go_enter Tryz.func80, Tryz.ntmps80
  go_wp2
  go_loopw [5] (fun i wr => ∃ k : Nat, k ≤ n ∧ i = .int .i64 k ∧ Ext w wr) (fun i _ => n - (intOf i).toNat)
  case atStart => exact ⟨0, Nat.zero_le _, rfl, Ext.refl _⟩
  case round =>
    obtain ⟨j, hj, rfl, hx⟩ := hrel
    by_cases hlt : j < n
    · obtain ⟨b, off, hA, hb, hcell⟩ := (hP.ext hx).at_ (by omega)
      obtain ⟨b2, off2, hB, hb2, hcell2⟩ := (hQ.ext hx).at_ (by omega)
      subst hA hB
      have i1 : (j : Int) < n := by omega
      obtain ⟨c0, c1⟩ := hcell j hlt
      obtain ⟨e0, e1⟩ := hcell2 j hlt
      clear hcell hcell2
      obtain ⟨t, ht⟩ : ∃ t, tv ts j = t := ⟨_, rfl⟩
      obtain ⟨q, hq⟩ : ∃ q, tp ts j = q := ⟨_, rfl⟩
      rw [ht] at c0 e0
      rw [hq] at c1 e1
      clear ht hq
      go_wp2
      go_region_held3 (fun wz => wz.cell? ⟨b, off + j * 2, none⟩ = some (.int .i64 t) ∧ wz.cell? ⟨b, off + j * 2 + 1, none⟩ = some (.bool q) ∧ wz.cell? ⟨b2, off2 + j * 2, none⟩ = some (.int .i64 t) ∧ wz.cell? ⟨b2, off2 + j * 2 + 1, none⟩ = some (.bool q)) (go_keep)
        (first | (go_at_call 110; (with_reducible refine (eqPassThrow_same t q _).mono ?_); rintro e w1 ⟨rfl, hx1⟩; have hk1 : ∀ o, w1.cell? ⟨b, o, none⟩ = _ := fun o => hx1.cells.1 _ o (by first | (simp; done) | (simp; omega) | omega); have hk2 : ∀ o, w1.cell? ⟨b2, o, none⟩ = _ := fun o => hx1.cells.1 _ o (by first | (simp; done) | (simp; omega) | omega)))
      go_wp2
      go_roundw
      case rel => exact ⟨j + 1, by omega, by go_num, (by with_reducible (repeat (first | exact Ext.refl _ | apply Ext.drewN | apply Ext.drew | apply Ext.alloc | (refine Ext.set ?_ (by first | (simp; done) | (simp; omega) | omega) _) | (refine Ext.trans ?_ (by assumption)))))⟩
      case measure => simp [intOf]; omega
    · obtain rfl : j = n := by omega
      go_wp2
      go_ret
      exact ⟨rfl, (by with_reducible (repeat (first | exact Ext.refl _ | apply Ext.drewN | apply Ext.drew | apply Ext.alloc | (refine Ext.set ?_ (by first | (simp; done) | (simp; omega) | omega) _) | (refine Ext.trans ?_ (by assumption)))))⟩
set_option maxHeartbeats 800000 in
theorem eqPassing_same (A B : Option Addr) (n c d : Nat) (A' B' : Option Addr) (m c' d' : Nat) (ts us : List (Int × Bool)) (w : World) (hP : Thr w A n ts) (hQ : Thr w B n ts) (hP' : Thr w A' m us) (hQ' : Thr w B' m us) :
    Calls Tryz.prog 35 #[.agg #[.slice A n c, .slice A' m c'], .agg #[.slice B n d, .slice B' m d']] w (fun e w' => e = .returned (.bool true) ∧ Ext w w') := by
  go_enter Tryz.func35, Tryz.ntmps35
  go_wp2_with fail
  (with_reducible refine (eqPassThrowS_same _ _ n _ _ ts _ (hP.ext (by with_reducible (repeat (first | exact Ext.refl _ | apply Ext.drewN | apply Ext.drew | apply Ext.alloc | (refine Ext.set ?_ (by first | (simp; done) | (simp; omega) | omega) _) | (refine Ext.trans ?_ (by assumption)))))) (hQ.ext (by with_reducible (repeat (first | exact Ext.refl _ | apply Ext.drewN | apply Ext.drew | apply Ext.alloc | (refine Ext.set ?_ (by first | (simp; done) | (simp; omega) | omega) _) | (refine Ext.trans ?_ (by assumption))))))).mono ?_)
  rintro e w1 ⟨rfl, hx⟩
  have hz1 := hx.size
  (try simp at hz1)
  have q0 : w.heap.size < w1.heap.size := by omega
  have q1 : w.heap.size + 1 < w1.heap.size := by omega
  have k0 : ∀ o, w1.cell? ⟨w.heap.size, o, none⟩ = _ := fun o => hx.cells.1 _ o (by first | (simp; done) | (simp; omega) | omega)
  have k1 : ∀ o, w1.cell? ⟨w.heap.size + 1, o, none⟩ = _ := fun o => hx.cells.1 _ o (by first | (simp; done) | (simp; omega) | omega)
  have hE : Ext w w1 := Ext.trans (by with_reducible (repeat (first | exact Ext.refl _ | apply Ext.drewN | apply Ext.drew | apply Ext.alloc | (refine Ext.set ?_ (by first | (simp; done) | (simp; omega) | omega) _) | (refine Ext.trans ?_ (by assumption))))) hx
  go_wp2_with fail
  (with_reducible refine (eqPassThrowS_same _ _ m _ _ us _ (hP'.ext (by with_reducible (repeat (first | exact Ext.refl _ | apply Ext.drewN | apply Ext.drew | apply Ext.alloc | (refine Ext.set ?_ (by first | (simp; done) | (simp; omega) | omega) _) | (refine Ext.trans ?_ (by assumption)))))) (hQ'.ext (by with_reducible (repeat (first | exact Ext.refl _ | apply Ext.drewN | apply Ext.drew | apply Ext.alloc | (refine Ext.set ?_ (by first | (simp; done) | (simp; omega) | omega) _) | (refine Ext.trans ?_ (by assumption))))))).mono ?_)
  rintro e w2 ⟨rfl, hx2⟩
  go_wp2
  go_ret
  exact ⟨rfl, hE.trans hx2⟩
/-- The throws that a mark leaves. -/
def mkT (k : Int) (n : Nat) : List (Int × Bool) := (List.range n).map (fun i : Nat => (k + 2 * i, ((k + 2 * i + 1) % 3 == 0)))
theorem mkT_len (k : Int) (n : Nat) : (mkT k n).length = n := by simp [mkT]
theorem mkT_tv {k : Int} {n i : Nat} (h : i < n) : tv (mkT k n) i = k + 2 * i := by simp [tv, mkT, h]
theorem mkT_tp {k : Int} {n i : Nat} (h : i < n) : tp (mkT k n) i = ((k + 2 * i + 1) % 3 == 0) := by simp [tp, mkT, h]
set_option maxHeartbeats 1000000 in
theorem heldPassThrowS_any (A : Option Addr) (n c : Nat) (k : Int) (w : World) (hI : Thr w A n (mkT k n)) (hk : 0 ≤ k ∧ k ≤ 4000000000000) (hn : n ≤ 1048576) :
    Calls Tryz.prog 84 #[.slice A n c, .int .i64 k] w fun e w' => e = .returned (.int .i64 (k + 2 * n)) ∧ Ext w w' := by
  go_enter Tryz.func84, Tryz.ntmps84
  go_wp2
  go_loopw [1, 5] (fun s i wr => ∃ j : Nat, j ≤ n ∧ i = .int .i64 j ∧ s = .int .i64 (k + 2 * j) ∧ Ext w wr) (fun _ i _ => n - (intOf i).toNat)
  case atStart => exact ⟨0, Nat.zero_le _, rfl, by go_num, Ext.refl _⟩
  case round =>
    obtain ⟨j, hj, rfl, rfl, hx⟩ := hrel
    by_cases hlt : j < n
    · obtain ⟨b, off, hA, hb, hcell⟩ := (hI.ext hx).at_ (by omega)
      subst hA
      have hji : (j : Int) < n := by omega
      obtain ⟨hc0, hc1⟩ := hcell j hlt
      rw [mkT_tv hlt] at hc0
      rw [mkT_tp hlt] at hc1
      clear hcell
      generalize hz : ((k + 2 * (j : Int) + 1) % 3 == 0) = z at hc1
      go_wp2
      go_roundw
      case rel => exact ⟨j + 1, by omega, by go_num, by go_num, hx⟩
      case measure => simp [intOf]; omega
    · obtain rfl : j = n := by omega
      go_wp2
      go_ret
      exact ⟨rfl, (by with_reducible (repeat (first | exact Ext.refl _ | apply Ext.drewN | apply Ext.drew | apply Ext.alloc | (refine Ext.set ?_ (by first | (simp; done) | (simp; omega) | omega) _) | (refine Ext.trans ?_ (by assumption)))))⟩
/-- What a mark does. -/
def MarkdT (w : World) (lo hi : Nat) (A : Option Addr) (n c : Nat) (k : Int) (en : Ending) (w' : World) : Prop :=
  en = .returned (.int .i64 (k + 2 * n)) ∧ w.grownBy w' (A.map (·.block)) ∧ RowT w' lo hi A n c (mkT k n)
set_option maxHeartbeats 2000000 in
theorem markPassThrowS_own (lo hi : Nat) (A : Option Addr) (n c : Nat) (k : Int) (ts : List (Int × Bool)) (w : World) (hO : RowT w lo hi A n c ts) (hk : 0 ≤ k ∧ k ≤ 4000000000000) (hn : n ≤ 1048576) :
    Calls Tryz.prog 82 #[.slice A n c, .int .i64 k] w (MarkdT w lo hi A n c k) := by
  obtain ⟨cs, hR, -⟩ := hO.row
  clear hO
  go_enter Tryz.func82, Tryz.ntmps82
  go_wp2
  go_loopw [1, 5] (fun s i wr => ∃ j : Nat, j ≤ n ∧ i = .int .i64 j ∧ s = .int .i64 (k + 2 * j) ∧ w.grownBy wr (A.map (·.block)) ∧ ∃ cs, RowG wr lo hi 125 2 A n c cs ∧ ∀ i, i < j → cs[i * 2]? = some (.int .i64 (k + 2 * i)) ∧ cs[i * 2 + 1]? = some (.bool (((k + 2 * i + 1) % 3 == 0)))) (fun _ i _ => n - (intOf i).toNat)
  case atStart => exact ⟨0, Nat.zero_le _, rfl, by go_num, World.grownBy.refl w _, _, hR, fun i h => absurd h (by omega)⟩
  case round =>
    obtain ⟨j, hj, rfl, rfl, hg, cs, hrow, hcs⟩ := hrel
    have HCS := Lib.hid hcs
    clear hcs hR
    by_cases hlt : j < n
    · obtain ⟨g, rfl, hgs⟩ := hrow.form (by omega)
      have hl := hrow.len
      obtain ⟨d0, f0⟩ := hrow.cellAt (p := j * 2) (by omega)
      obtain ⟨d1, f1⟩ := hrow.cellAt (p := j * 2 + 1) (by omega)
      rw [List.getElem?_eq_getElem (by omega)] at d0 d1
      generalize cs[j * 2]'(by omega) = u0 at d0
      generalize cs[j * 2 + 1]'(by omega) = u1 at d1
      have hji : (j : Int) < n := by omega
      have HG := Lib.hid hg
      clear hg
      go_wp2
      go_roundw
      case rel =>
        refine ⟨j + 1, by omega, by go_num, by go_num, ?_, _, (hrow.store _ _).store _ _, fun i hi => ?_⟩
        · exact only_setCell (p := ⟨g, j * 2 + 1, none⟩) (only_setCell (p := ⟨g, j * 2, none⟩) HG.out rfl _) rfl _
        · by_cases e : i = j
          · subst e
            refine ⟨?_, ?_⟩
            · rw [List.getElem?_set_ne (by omega), List.getElem?_set_self (by omega)]
            · rw [List.getElem?_set_self (by rw [List.length_set]; omega)]
          · obtain ⟨e0, e1⟩ := HCS.out i (by omega)
            refine ⟨?_, ?_⟩
            · rw [List.getElem?_set_ne (by omega), List.getElem?_set_ne (by omega), e0]
            · rw [List.getElem?_set_ne (by omega), List.getElem?_set_ne (by omega), e1]
      case measure => simp [intOf]; omega
    · obtain rfl : j = n := by omega
      have HT : Hid (MarkdT w lo hi A j c k (.returned (.int .i64 (k + 2 * j))) wr) := ⟨rfl, hg, mkT_len _ _, cs, hrow, fun i hi => by rw [mkT_tv hi, mkT_tp hi]; exact HCS.out i hi⟩
      clear hg hrow
      go_wp2
      go_ret
      exact HT.out
set_option maxHeartbeats 800000 in
theorem heldPassing_any (A B : Option Addr) (n c m d : Nat) (k : Int) (w : World) (hI : Thr w A n (mkT k n)) (hJ : Thr w B m (mkT (k + 2 * n) m)) (hk : 0 ≤ k ∧ k ≤ 2000000000000) (hn : n ≤ 1048576) (hm : m ≤ 1048576) :
    Calls Tryz.prog 43 #[.agg #[.slice A n c, .slice B m d], .int .i64 k] w fun e w' => e = .returned (.int .i64 (k + 2 * n + 2 * m)) ∧ Ext w w' := by
  go_enter Tryz.func43, Tryz.ntmps43
  go_wp2_with fail
  (with_reducible refine (heldPassThrowS_any _ n _ k _ (hI.ext (by with_reducible (repeat (first | exact Ext.refl _ | apply Ext.drewN | apply Ext.drew | apply Ext.alloc | (refine Ext.set ?_ (by first | (simp; done) | (simp; omega) | omega) _) | (refine Ext.trans ?_ (by assumption)))))) (by omega) hn).mono ?_)
  rintro e w1 ⟨rfl, hx⟩
  have hz1 := hx.size
  (try simp at hz1)
  have q0 : w.heap.size < w1.heap.size := by omega
  have k0 : ∀ o, w1.cell? ⟨w.heap.size, o, none⟩ = _ := fun o => hx.cells.1 _ o (by first | (simp; done) | (simp; omega) | omega)
  have hE : Ext w w1 := Ext.trans (by with_reducible (repeat (first | exact Ext.refl _ | apply Ext.drewN | apply Ext.drew | apply Ext.alloc | (refine Ext.set ?_ (by first | (simp; done) | (simp; omega) | omega) _) | (refine Ext.trans ?_ (by assumption))))) hx
  have hnn : ¬ k + 2 * (n : Int) < 0 := by omega
  go_wp2_with fail
  (with_reducible refine (heldPassThrowS_any _ m _ (k + 2 * n) _ (hJ.ext (by with_reducible (repeat (first | exact Ext.refl _ | apply Ext.drewN | apply Ext.drew | apply Ext.alloc | (refine Ext.set ?_ (by first | (simp; done) | (simp; omega) | omega) _) | (refine Ext.trans ?_ (by assumption)))))) (by omega) hm).mono ?_)
  rintro e w2 ⟨rfl, hx2⟩
  have hnm : ¬ k + 2 * (n : Int) + 2 * (m : Int) < 0 := by omega
  go_wp2
  go_ret
  exact ⟨rfl, hE.trans hx2⟩
/-- What a mark of a pattern does. -/
def MarkdP (w : World) (lo hi : Nat) (A : Option Addr) (n c : Nat) (B : Option Addr) (m d : Nat) (k : Int) (en : Ending) (w' : World) : Prop :=
  en = .returned (.int .i64 (k + 2 * n + 2 * m)) ∧ Kept lo hi w w' ∧ PassR w' lo hi A n c B m d (mkT k n) (mkT (k + 2 * n) m)
set_option maxHeartbeats 2000000 in
theorem markPassing_own (lo hi : Nat) (A : Option Addr) (n c : Nat) (B : Option Addr) (m d : Nat) (k : Int) (ts us : List (Int × Bool)) (w : World) (hO : PassR w lo hi A n c B m d ts us) (hk : 0 ≤ k ∧ k ≤ 2000000000000) (hn : n ≤ 1048576) (hm : m ≤ 1048576) (hhi : hi ≤ w.heap.size) :
    Calls Tryz.prog 39 #[.agg #[.slice A n c, .slice B m d], .int .i64 k] w (MarkdP w lo hi A n c B m d k) := by
  go_enter Tryz.func39, Tryz.ntmps39
  go_wp2_with fail
  (with_reducible refine (markPassThrowS_own lo hi _ n _ k ts _ (hO.a.ext (by with_reducible (repeat (first | exact Ext.refl _ | apply Ext.drewN | apply Ext.drew | apply Ext.alloc | (refine Ext.set ?_ (by first | (simp; done) | (simp; omega) | omega) _) | (refine Ext.trans ?_ (by assumption)))))) (by omega) hn).mono ?_)
  rintro e w1 ⟨rfl, hg1, R1⟩
  have hz1 := hg1.size
  (try simp at hz1)
  have q0 : w.heap.size < w1.heap.size := by omega
  have k0 : ∀ o, w1.cell? ⟨w.heap.size, o, none⟩ = _ := fun o => World.cell?_of_block (hg1.block w.heap.size (by simp) (fun e' => by have := (hO.a.row_bd _ e'.symm).2; omega))
  have hB1 : RowT w1 lo hi B m d us := (hO.b.ext (by with_reducible (repeat (first | exact Ext.refl _ | apply Ext.drewN | apply Ext.drew | apply Ext.alloc | (refine Ext.set ?_ (by first | (simp; done) | (simp; omega) | omega) _) | (refine Ext.trans ?_ (by assumption)))))).beside hg1 (fun g hg => hO.ne g hg)
  have hK1 : Kept lo hi w w1 := (Kept.of_ext (by with_reducible (repeat (first | exact Ext.refl _ | apply Ext.drewN | apply Ext.drew | apply Ext.alloc | (refine Ext.set ?_ (by first | (simp; done) | (simp; omega) | omega) _) | (refine Ext.trans ?_ (by assumption)))))).trans (Kept.of_grown hg1 (fun g hg => hO.a.row_bd g hg))
  clear hg1
  go_wp2_with fail
  (with_reducible refine (markPassThrowS_own lo hi _ m _ (k + 2 * n) us _ hB1 (by omega) hm).mono ?_)
  rintro e w2 ⟨rfl, hg2, R2⟩
  have HT : Hid (MarkdP w lo hi A n c B m d k (.returned (.int .i64 (k + 2 * n + 2 * m))) w2) :=
    ⟨rfl, hK1.trans (Kept.of_grown hg2 (fun g hg => hO.b.row_bd g hg)), R1.beside hg2 (fun g hg e => hO.ne g e hg), R2, hO.ne⟩
  clear hK1 hB1 R1 R2 hg2
  go_wp2
  go_ret
  exact HT.out
end Go.Proofs.YtohmnilkmljioaaGreat
