/- Both jugglers juggle alone: contracts of selfs, l06Self, TogetherOf, both sides. No condition but the stated bounds. -/
import Derived.Test.YtbihbhdaenhdoaaGreatThr6
import Derived.Test.YtbihbhdaenhdoaaGreatCla
namespace Go.Proofs.YtbihbhdaenhdoaaGreat
set_option linter.unusedVariables false
set_option linter.unusedSimpArgs false
open Go.ChangeShapes Go.WideShapes Go.ChangeAt Go.RowKit Go.Joins Go.Deep

/-- The throws of a juggler alone. -/
def sf (ys : List Int) : List (Int × Bool) := ys.map (fun y => (y, false))
theorem sf_len (ys : List Int) : (sf ys).length = ys.length := by simp [sf]
/-- The cells of throws. -/
def flT (ts : List (Int × Bool)) : List Value := ts.flatMap (fun t => [Value.int .i64 t.1, Value.bool t.2])
theorem flT_len (ts : List (Int × Bool)) : (flT ts).length = ts.length * 2 := by
  unfold flT
  induction ts with
  | nil => rfl
  | cons t ts ih => simp only [List.flatMap_cons, List.length_append, List.length_cons, List.length_nil, ih]; omega
theorem flT_get : ∀ (ts : List (Int × Bool)) (i : Nat), i < ts.length → (flT ts)[i * 2]? = some (.int .i64 (tv ts i)) ∧ (flT ts)[i * 2 + 1]? = some (.bool (tp ts i))
  | [], i, h => by simp at h
  | t :: ts, 0, _ => by simp [flT, tv, tp]
  | t :: ts, i + 1, h => by
    have := flT_get ts i (by simpa using h)
    have e1 : (flT (t :: ts))[(i + 1) * 2]? = (flT ts)[i * 2]? := by
      show (Value.int .i64 t.1 :: Value.bool t.2 :: flT ts)[(i + 1) * 2]? = _
      rw [show (i + 1) * 2 = i * 2 + 1 + 1 by omega, List.getElem?_cons_succ, List.getElem?_cons_succ]
    have e2 : (flT (t :: ts))[(i + 1) * 2 + 1]? = (flT ts)[i * 2 + 1]? := by
      show (Value.int .i64 t.1 :: Value.bool t.2 :: flT ts)[(i + 1) * 2 + 1]? = _
      rw [show (i + 1) * 2 + 1 = i * 2 + 1 + 1 + 1 by omega, List.getElem?_cons_succ, List.getElem?_cons_succ]
    rw [e1, e2]
    have e3 : tv (t :: ts) (i + 1) = tv ts i := by simp [tv]
    have e4 : tp (t :: ts) (i + 1) = tp ts i := by simp [tp]
    rw [e3, e4]
    exact this
theorem flT_snoc (ts : List (Int × Bool)) (v : Int) (p : Bool) : flT (ts ++ [(v, p)]) = flT ts ++ [.int .i64 v, .bool p] := by simp [flT]
theorem sf_take {ys : List Int} {k : Nat} (h : k < ys.length) : sf (ys.take (k + 1)) = sf (ys.take k) ++ [(ys[k]?.getD 0, false)] := by
  unfold sf
  rw [List.take_succ_eq_append_getElem h, List.map_append, List.getElem?_eq_getElem h]
  rfl
theorem elThr : ElG Tryz.prog 86 2 16 := elG infoThrow rfl
theorem RowT.of_ownG {w w' : World} {A : Option Addr} {n c : Nat} {ts : List (Int × Bool)} (h : OwnG 86 2 w w' (.slice A n c) n (flT ts)) (hl : ts.length = n) : RowT w' w.heap.size w'.heap.size A n c ts :=
  ⟨hl, _, h.row, fun i hi => flT_get ts i (by omega)⟩
set_option maxHeartbeats 1000000 in
theorem l06Self_any (A : Option Addr) (n c : Nat) (ys : List Int) (w : World) (hI : Ints w A n ys) (hn : n ≤ 1000) :
    Calls Tryz.prog 109 #[.slice A n c] w (RetT w n (sf ys)) := by
  have HL := Lib.hid hI.len
  go_enter Tryz.func109, Tryz.ntmps109
  go_wp2
  go_loopw [3, 4] (fun v i wr => ∃ k : Nat, k ≤ n ∧ i = .int .i64 k ∧ OwnG 86 2 w wr v k (flT (sf (ys.take k)))) (fun _ i _ => n - (intOf i).toNat)
  case atStart => exact ⟨0, Nat.zero_le _, rfl, ownG_empty (Ext.refl _) _ _⟩
  case round =>
    obtain ⟨k, hk, rfl, hown⟩ := hrel
    by_cases hlt : k < n
    · obtain ⟨b, off, rfl, hb, hcell⟩ := (hI.ext hown.ext).at_ (by omega)
      have hc := hcell k hlt
      have hki : (k : Int) < n := by omega
      have HS : Hid (flT (sf (ys.take (k + 1))) = flT (sf (ys.take k)) ++ [.int .i64 (ys[k]?.getD 0), .bool false]) := by show _ = _; rw [sf_take (by rw [HL.out]; exact hlt), flT_snoc]
      generalize ys[k]?.getD 0 = y at hc HS
      clear hcell
      go_wp2_with (first | (at_builtin; refine appG elThr (by omega) rfl _ _ Tryz.underlying29 rfl rfl (hown.trans (by with_reducible (repeat (first | exact Ext.refl _ | apply Ext.drewN | apply Ext.drew | apply Ext.alloc | (refine Ext.set ?_ (by first | (simp; done) | (simp; omega) | omega) _) | (refine Ext.trans ?_ (by assumption)))))) (by omega) rfl (heap_alloc_new _ _) (ys := [.int .i64 y, .bool false]) (by rfl) (by rfl) (by simp [Value.oneCell']) ?_; intro v' w3 hown'))
      go_roundw
      case rel => exact ⟨k + 1, by omega, by go_num, by rw [HS.out]; exact hown'⟩
      case measure => simp [intOf]; omega
    · obtain rfl : k = n := by omega
      obtain ⟨A1, c1, rfl⟩ := hown.forms
      have HT : Hid (RetT w k (sf ys) (.returned (.slice A1 k c1)) wr) := by
        have h0 := hown
        rw [List.take_of_length_le (by rw [HL.out]; exact Nat.le_refl _)] at h0
        exact ⟨A1, c1, rfl, RowT.of_ownG h0 (by rw [sf_len, HL.out]), hown.ext⟩
      go_wp2
      go_ret
      exact HT.out
set_option maxHeartbeats 1000000 in
theorem selfs_any (A : Option Addr) (n c : Nat) (ys : List Int) (w : World) (hI : Ints w A n ys) (hn : n ≤ 1000) :
    Calls Tryz.prog 65 #[.slice A n c] w (RetT w n (sf ys)) := by
  have HL := Lib.hid hI.len
  go_enter Tryz.func65, Tryz.ntmps65
  go_wp2
  go_loopw [3, 9] (fun v i wr => ∃ k : Nat, k ≤ n ∧ i = .int .i64 k ∧ OwnG 86 2 w wr v k (flT (sf (ys.take k)))) (fun _ i _ => n - (intOf i).toNat)
  case atStart => exact ⟨0, Nat.zero_le _, rfl, ownG_empty (Ext.refl _) _ _⟩
  case round =>
    obtain ⟨k, hk, rfl, hown⟩ := hrel
    by_cases hlt : k < n
    · obtain ⟨b, off, rfl, hb, hcell⟩ := (hI.ext hown.ext).at_ (by omega)
      have hc := hcell k hlt
      have hki : (k : Int) < n := by omega
      have HS : Hid (flT (sf (ys.take (k + 1))) = flT (sf (ys.take k)) ++ [.int .i64 (ys[k]?.getD 0), .bool false]) := by show _ = _; rw [sf_take (by rw [HL.out]; exact hlt), flT_snoc]
      generalize ys[k]?.getD 0 = y at hc HS
      clear hcell
      go_wp2_with (first | (at_builtin; refine appG elThr (by omega) rfl _ _ Tryz.underlying29 rfl rfl (hown.trans (by with_reducible (repeat (first | exact Ext.refl _ | apply Ext.drewN | apply Ext.drew | apply Ext.alloc | (refine Ext.set ?_ (by first | (simp; done) | (simp; omega) | omega) _) | (refine Ext.trans ?_ (by assumption)))))) (by omega) rfl (heap_alloc_new _ _) (ys := [.int .i64 y, .bool false]) (by rfl) (by rfl) (by simp [Value.oneCell']) ?_; intro v' w3 hown'))
      go_roundw
      case rel => exact ⟨k + 1, by omega, by go_num, by rw [HS.out]; exact hown'⟩
      case measure => simp [intOf]; omega
    · obtain rfl : k = n := by omega
      obtain ⟨A1, c1, rfl⟩ := hown.forms
      have HT : Hid (RetT w k (sf ys) (.returned (.slice A1 k c1)) wr) := by
        have h0 := hown
        rw [List.take_of_length_le (by rw [HL.out]; exact Nat.le_refl _)] at h0
        exact ⟨A1, c1, rfl, RowT.of_ownG h0 (by rw [sf_len, HL.out]), hown.ext⟩
      go_wp2
      go_ret
      exact HT.out
set_option maxHeartbeats 2000000 in
theorem TogetherOf_any (A B : Option Addr) (n c d : Nat) (xs ys : List Int) (w : World) (hI : Ints w A n xs) (hJ : Ints w B n ys) (hn : 1 ≤ n ∧ n ≤ 8) (hx : vpat xs = true) (hy : vpat ys = true) :
    Calls Tryz.prog 78 #[.slice A n c, .slice B n d] w (fun e w' => ∃ A1 c1 B1 d1, e = .returned (.tuple #[.agg #[.slice A1 n c1, .slice B1 n d1], .int .i64 0]) ∧ PassR w' w.heap.size w'.heap.size A1 n c1 B1 n d1 (sf xs) (sf ys) ∧ Ext w w') := by
  go_enter Tryz.func78, Tryz.ntmps78
  go_wp2_with fail
  (with_reducible refine (l02Ok_is _ _ _ xs _ hx _ (hI.ext (by with_reducible (repeat (first | exact Ext.refl _ | apply Ext.drewN | apply Ext.drew | apply Ext.alloc | (refine Ext.set ?_ (by first | (simp; done) | (simp; omega) | omega) _) | (refine Ext.trans ?_ (by assumption))))))).mono ?_)
  rintro e w1 ⟨rfl, q, rfl⟩
  go_wp2_with fail
  (with_reducible refine (l02Ok_is _ _ _ ys _ hy _ (hJ.ext (by with_reducible (repeat (first | exact Ext.refl _ | apply Ext.drewN | apply Ext.drew | apply Ext.alloc | (refine Ext.set ?_ (by first | (simp; done) | (simp; omega) | omega) _) | (refine Ext.trans ?_ (by assumption))))))).mono ?_)
  rintro e w2 ⟨rfl, q2, rfl⟩
  have hn8 : ¬ (8 : Int) < n := by omega
  go_wp2_with fail
  (with_reducible refine (l06Self_any _ _ _ xs _ (hI.ext (by with_reducible (repeat (first | exact Ext.refl _ | apply Ext.drewN | apply Ext.drew | apply Ext.alloc | (refine Ext.set ?_ (by first | (simp; done) | (simp; omega) | omega) _) | (refine Ext.trans ?_ (by assumption)))))) (by omega)).mono ?_)
  rintro e w3 ⟨A1, c1, rfl, R1, hx3⟩
  have hz3 := hx3.size
  have q3 : w.heap.size < w3.heap.size := by have := hx3.size; simp at this; omega
  have k3 : ∀ o, w3.cell? ⟨w.heap.size, o, none⟩ = _ := fun o => hx3.cells.1 _ o (by first | (simp; done) | (simp; omega) | omega)
  have f3 : ∀ o, w3.frozen? ⟨w.heap.size, o, none⟩ = _ := fun o => hx3.cells.2 _ o (by first | (simp; done) | (simp; omega) | omega)
  have hE3 : Ext w w3 := Ext.trans (by with_reducible (repeat (first | exact Ext.refl _ | apply Ext.drewN | apply Ext.drew | apply Ext.alloc | (refine Ext.set ?_ (by first | (simp; done) | (simp; omega) | omega) _) | (refine Ext.trans ?_ (by assumption))))) hx3
  have h1 : RowT w3 (w.heap.size + 1) w3.heap.size A1 n c1 (sf xs) := by simpa using R1
  clear R1
  go_wp2_with fail
  (with_reducible refine (l06Self_any _ _ _ ys _ (hJ.ext (by with_reducible (repeat (first | exact Ext.refl _ | apply Ext.drewN | apply Ext.drew | apply Ext.alloc | (refine Ext.set ?_ (by first | (simp; done) | (simp; omega) | omega) _) | (refine Ext.trans ?_ (by assumption)))))) (by omega)).mono ?_)
  rintro e w4 ⟨B1, d1, rfl, R2, hx4⟩
  have hz4 := hx4.size
  have q4 : w.heap.size < w4.heap.size := by omega
  have k4 : ∀ o, w4.cell? ⟨w.heap.size, o, none⟩ = _ := fun o => hx4.cells.1 _ o (by first | (simp; done) | (simp; omega) | omega)
  have f4 : ∀ o, w4.frozen? ⟨w.heap.size, o, none⟩ = _ := fun o => hx4.cells.2 _ o (by first | (simp; done) | (simp; omega) | omega)
  have hE4 : Ext w w4 := Ext.trans (by with_reducible (repeat (first | exact Ext.refl _ | apply Ext.drewN | apply Ext.drew | apply Ext.alloc | (refine Ext.set ?_ (by first | (simp; done) | (simp; omega) | omega) _) | (refine Ext.trans ?_ (by assumption))))) hx4
  have HP : Hid (∀ u v : Value, PassR ((w4.setCell ⟨w.heap.size, 0, none⟩ u).setCell ⟨w.heap.size, 1, none⟩ v) w.heap.size ((w4.setCell ⟨w.heap.size, 0, none⟩ u).setCell ⟨w.heap.size, 1, none⟩ v).heap.size A1 n c1 B1 n d1 (sf xs) (sf ys)) := fun u v => pass_fin0 (by omega) h1 hx4 (Nat.le_refl _) R2 u v (by simp at hz3; omega)
  clear h1 R2 hx4
  go_wp2
  exact bodyPost_ret (v := .tuple #[.agg #[.slice A1 n c1, .slice B1 n d1], .int .i64 0]) (by simp [results, Tryz.results78, go_sem, *]) rfl ⟨_, _, _, _, rfl, HP.out _ _, (by with_reducible (repeat (first | exact Ext.refl _ | apply Ext.drewN | apply Ext.drew | apply Ext.alloc | (refine Ext.set ?_ (by first | (simp; done) | (simp; omega) | omega) _) | (refine Ext.trans ?_ (by assumption)))))⟩
/-- Too many beats for two jugglers. -/
theorem TogetherOf_full (A : Option Addr) (n c : Nat) (xs : List Int) (w : World) (hI : Ints w A n xs) (hn : 9 ≤ n ∧ n ≤ 12) (hx : vpat xs = true) :
    Calls Tryz.prog 78 #[.slice A n c, .slice A n c] w (fun e w' => e = .returned (.tuple #[.agg #[.slice none 0 0, .slice none 0 0], .int .i64 5]) ∧ Ext w w') := by
  go_enter Tryz.func78, Tryz.ntmps78
  go_wp2_with fail
  (with_reducible refine (l02Ok_is _ _ _ xs _ hx _ (hI.ext (by with_reducible (repeat (first | exact Ext.refl _ | apply Ext.drewN | apply Ext.drew | apply Ext.alloc | (refine Ext.set ?_ (by first | (simp; done) | (simp; omega) | omega) _) | (refine Ext.trans ?_ (by assumption))))))).mono ?_)
  rintro e w1 ⟨rfl, q, rfl⟩
  go_wp2_with fail
  (with_reducible refine (l02Ok_is _ _ _ xs _ hx _ (hI.ext (by with_reducible (repeat (first | exact Ext.refl _ | apply Ext.drewN | apply Ext.drew | apply Ext.alloc | (refine Ext.set ?_ (by first | (simp; done) | (simp; omega) | omega) _) | (refine Ext.trans ?_ (by assumption))))))).mono ?_)
  rintro e w2 ⟨rfl, q2, rfl⟩
  have hn8 : (8 : Int) < n := by omega
  go_wp2
  exact bodyPost_ret (v := .tuple #[.agg #[.slice none 0 0, .slice none 0 0], .int .i64 5]) (by simp [results, Tryz.results78, go_sem, *]) rfl ⟨rfl, (by with_reducible (repeat (first | exact Ext.refl _ | apply Ext.drewN | apply Ext.drew | apply Ext.alloc | (refine Ext.set ?_ (by first | (simp; done) | (simp; omega) | omega) _) | (refine Ext.trans ?_ (by assumption)))))⟩
set_option maxHeartbeats 2000000 in
theorem implTogetherOf_any (A B : Option Addr) (n c d : Nat) (xs ys : List Int) (w : World) (hI : Ints w A n xs) (hJ : Ints w B n ys) (hn : 1 ≤ n ∧ n ≤ 8) (hx : vpat xs = true) (hy : vpat ys = true) :
    Calls Tryz.prog 27 #[.slice A n c, .slice B n d] w (fun e w' => ∃ A1 c1 B1 d1, e = .returned (.tuple #[.agg #[.slice A1 n c1, .slice B1 n d1], .int .i64 0]) ∧ PassR w' w.heap.size w'.heap.size A1 n c1 B1 n d1 (sf xs) (sf ys) ∧ Ext w w') := by
  go_enter Tryz.func27, Tryz.ntmps27
  go_wp2_with fail
  (with_reducible refine (ValidPattern_is _ _ _ xs _ hx _ (hI.ext (by with_reducible (repeat (first | exact Ext.refl _ | apply Ext.drewN | apply Ext.drew | apply Ext.alloc | (refine Ext.set ?_ (by first | (simp; done) | (simp; omega) | omega) _) | (refine Ext.trans ?_ (by assumption))))))).mono ?_)
  rintro e w1 ⟨rfl, hx1⟩
  have hz1 := hx1.size
  (try simp at hz1)
  have q1 : w.heap.size < w1.heap.size := by omega
  have k1 : ∀ o, w1.cell? ⟨w.heap.size, o, none⟩ = _ := fun o => hx1.cells.1 _ o (by first | (simp; done) | (simp; omega) | omega)
  have f1 : ∀ o, w1.frozen? ⟨w.heap.size, o, none⟩ = _ := fun o => hx1.cells.2 _ o (by first | (simp; done) | (simp; omega) | omega)
  have hE1 : Ext w w1 := Ext.trans (by with_reducible (repeat (first | exact Ext.refl _ | apply Ext.drewN | apply Ext.drew | apply Ext.alloc | (refine Ext.set ?_ (by first | (simp; done) | (simp; omega) | omega) _) | (refine Ext.trans ?_ (by assumption))))) hx1
  clear hx1
  go_wp2_with fail
  (with_reducible refine (ValidPattern_is _ _ _ ys _ hy _ (hJ.ext (by with_reducible (repeat (first | exact Ext.refl _ | apply Ext.drewN | apply Ext.drew | apply Ext.alloc | (refine Ext.set ?_ (by first | (simp; done) | (simp; omega) | omega) _) | (refine Ext.trans ?_ (by assumption))))))).mono ?_)
  rintro e w2 ⟨rfl, hx2⟩
  have hz2 := hx2.size
  have q2 : w.heap.size < w2.heap.size := by omega
  have k2 : ∀ o, w2.cell? ⟨w.heap.size, o, none⟩ = _ := fun o => hx2.cells.1 _ o (by first | (simp; done) | (simp; omega) | omega)
  have f2 : ∀ o, w2.frozen? ⟨w.heap.size, o, none⟩ = _ := fun o => hx2.cells.2 _ o (by first | (simp; done) | (simp; omega) | omega)
  have hE2 : Ext w w2 := hE1.trans hx2
  clear hx2
  have hn8 : ¬ (8 : Int) < n := by omega
  go_wp2_with fail
  (with_reducible refine (selfs_any _ _ _ xs _ (hI.ext (by with_reducible (repeat (first | exact Ext.refl _ | apply Ext.drewN | apply Ext.drew | apply Ext.alloc | (refine Ext.set ?_ (by first | (simp; done) | (simp; omega) | omega) _) | (refine Ext.trans ?_ (by assumption)))))) (by omega)).mono ?_)
  rintro e w3 ⟨A1, c1, rfl, R1, hx3⟩
  have hz3 := hx3.size
  have q3 : w.heap.size < w3.heap.size := by omega
  have k3 : ∀ o, w3.cell? ⟨w.heap.size, o, none⟩ = _ := fun o => hx3.cells.1 _ o (by first | (simp; done) | (simp; omega) | omega)
  have f3 : ∀ o, w3.frozen? ⟨w.heap.size, o, none⟩ = _ := fun o => hx3.cells.2 _ o (by first | (simp; done) | (simp; omega) | omega)
  have hE3 : Ext w w3 := Ext.trans (by with_reducible (repeat (first | exact Ext.refl _ | apply Ext.drewN | apply Ext.drew | apply Ext.alloc | (refine Ext.set ?_ (by first | (simp; done) | (simp; omega) | omega) _) | (refine Ext.trans ?_ (by assumption))))) hx3
  have h1 : RowT w3 (w.heap.size + 1) w3.heap.size A1 n c1 (sf xs) := R1.wide (by omega) (Nat.le_refl _)
  clear R1
  go_wp2_with fail
  (with_reducible refine (selfs_any _ _ _ ys _ (hJ.ext (by with_reducible (repeat (first | exact Ext.refl _ | apply Ext.drewN | apply Ext.drew | apply Ext.alloc | (refine Ext.set ?_ (by first | (simp; done) | (simp; omega) | omega) _) | (refine Ext.trans ?_ (by assumption)))))) (by omega)).mono ?_)
  rintro e w4 ⟨B1, d1, rfl, R2, hx4⟩
  have hz4 := hx4.size
  have q4 : w.heap.size < w4.heap.size := by omega
  have k4 : ∀ o, w4.cell? ⟨w.heap.size, o, none⟩ = _ := fun o => hx4.cells.1 _ o (by first | (simp; done) | (simp; omega) | omega)
  have f4 : ∀ o, w4.frozen? ⟨w.heap.size, o, none⟩ = _ := fun o => hx4.cells.2 _ o (by first | (simp; done) | (simp; omega) | omega)
  have hE4 : Ext w w4 := Ext.trans (by with_reducible (repeat (first | exact Ext.refl _ | apply Ext.drewN | apply Ext.drew | apply Ext.alloc | (refine Ext.set ?_ (by first | (simp; done) | (simp; omega) | omega) _) | (refine Ext.trans ?_ (by assumption))))) hx4
  have HP : Hid (∀ u v : Value, PassR ((w4.setCell ⟨w.heap.size, 0, none⟩ u).setCell ⟨w.heap.size, 1, none⟩ v) w.heap.size ((w4.setCell ⟨w.heap.size, 0, none⟩ u).setCell ⟨w.heap.size, 1, none⟩ v).heap.size A1 n c1 B1 n d1 (sf xs) (sf ys)) := fun u v => pass_fin0 (by omega) h1 hx4 (Nat.le_refl _) R2 u v (by omega)
  clear h1 R2 hx4
  go_wp2
  exact bodyPost_ret (v := .tuple #[.agg #[.slice A1 n c1, .slice B1 n d1], .int .i64 0]) (by simp [results, Tryz.results27, go_sem, *]) rfl ⟨_, _, _, _, rfl, HP.out _ _, (by with_reducible (repeat (first | exact Ext.refl _ | apply Ext.drewN | apply Ext.drew | apply Ext.alloc | (refine Ext.set ?_ (by first | (simp; done) | (simp; omega) | omega) _) | (refine Ext.trans ?_ (by assumption)))))⟩
theorem implTogetherOf_full (A : Option Addr) (n c : Nat) (xs : List Int) (w : World) (hI : Ints w A n xs) (hn : 9 ≤ n ∧ n ≤ 12) (hx : vpat xs = true) :
    Calls Tryz.prog 27 #[.slice A n c, .slice A n c] w (fun e w' => e = .returned (.tuple #[.agg #[.slice none 0 0, .slice none 0 0], .int .i64 5]) ∧ Ext w w') := by
  go_enter Tryz.func27, Tryz.ntmps27
  go_wp2_with fail
  (with_reducible refine (ValidPattern_is _ _ _ xs _ hx _ (hI.ext (by with_reducible (repeat (first | exact Ext.refl _ | apply Ext.drewN | apply Ext.drew | apply Ext.alloc | (refine Ext.set ?_ (by first | (simp; done) | (simp; omega) | omega) _) | (refine Ext.trans ?_ (by assumption))))))).mono ?_)
  rintro e w1 ⟨rfl, hx1⟩
  have hz1 := hx1.size
  (try simp at hz1)
  have q1 : w.heap.size < w1.heap.size := by omega
  have k1 : ∀ o, w1.cell? ⟨w.heap.size, o, none⟩ = _ := fun o => hx1.cells.1 _ o (by first | (simp; done) | (simp; omega) | omega)
  have f1 : ∀ o, w1.frozen? ⟨w.heap.size, o, none⟩ = _ := fun o => hx1.cells.2 _ o (by first | (simp; done) | (simp; omega) | omega)
  have hE1 : Ext w w1 := Ext.trans (by with_reducible (repeat (first | exact Ext.refl _ | apply Ext.drewN | apply Ext.drew | apply Ext.alloc | (refine Ext.set ?_ (by first | (simp; done) | (simp; omega) | omega) _) | (refine Ext.trans ?_ (by assumption))))) hx1
  clear hx1
  go_wp2_with fail
  (with_reducible refine (ValidPattern_is _ _ _ xs _ hx _ (hI.ext (by with_reducible (repeat (first | exact Ext.refl _ | apply Ext.drewN | apply Ext.drew | apply Ext.alloc | (refine Ext.set ?_ (by first | (simp; done) | (simp; omega) | omega) _) | (refine Ext.trans ?_ (by assumption))))))).mono ?_)
  rintro e w2 ⟨rfl, hx2⟩
  have hz2 := hx2.size
  have q2 : w.heap.size < w2.heap.size := by omega
  have k2 : ∀ o, w2.cell? ⟨w.heap.size, o, none⟩ = _ := fun o => hx2.cells.1 _ o (by first | (simp; done) | (simp; omega) | omega)
  have f2 : ∀ o, w2.frozen? ⟨w.heap.size, o, none⟩ = _ := fun o => hx2.cells.2 _ o (by first | (simp; done) | (simp; omega) | omega)
  have hE2 : Ext w w2 := hE1.trans hx2
  clear hx2
  have hn8 : (8 : Int) < n := by omega
  go_wp2
  exact bodyPost_ret (v := .tuple #[.agg #[.slice none 0 0, .slice none 0 0], .int .i64 5]) (by simp [results, Tryz.results27, go_sem, *]) rfl ⟨rfl, (by with_reducible (repeat (first | exact Ext.refl _ | apply Ext.drewN | apply Ext.drew | apply Ext.alloc | (refine Ext.set ?_ (by first | (simp; done) | (simp; omega) | omega) _) | (refine Ext.trans ?_ (by assumption)))))⟩
end Go.Proofs.YtbihbhdaenhdoaaGreat
