/- Drawn patterns of one juggler that are always valid: l04Site. No condition but the stated bounds. -/
import Derived.Test.YtlalaomimfdepaaDrw
import Derived.Test.YtlalaomimfdepaaCla
namespace Go.Proofs.Ytlalaomimfdepaa
set_option linter.unusedVariables false
set_option linter.unusedSimpArgs false
open Go.RowKit Go.Joins

theorem lnd_eq {xs : List Int} {i : Nat} : lnd xs i = ((i : Int) + xs[i]?.getD 0) % (xs.length : Int) := rfl
theorem ncl_iff {xs : List Int} : ncl xs = true ↔ ∀ i j, i < j → j < xs.length → lnd xs i ≠ lnd xs j := by
  unfold ncl
  rw [decide_eq_true_iff]
  exact ⟨fun h i j hij hj => h j hj i hij, fun h j hj i hij => h i j hij hj⟩
theorem vpat_rep {k : Int} {n : Nat} (hk : 0 ≤ k ∧ k ≤ 4) (hn : 1 ≤ n ∧ n ≤ 5) : vpat (List.replicate n k) = true := by
  rcases (by omega : k = 0 ∨ k = 1 ∨ k = 2 ∨ k = 3 ∨ k = 4) with rfl | rfl | rfl | rfl | rfl <;>
  rcases (by omega : n = 1 ∨ n = 2 ∨ n = 3 ∨ n = 4 ∨ n = 5) with rfl | rfl | rfl | rfl | rfl <;> decide
theorem getD_set {xs : List Int} {k i : Nat} {v : Int} (hk : k < xs.length) : (xs.set k v)[i]?.getD 0 = if i = k then v else xs[i]?.getD 0 := by
  rw [List.getElem?_set]
  split
  · rename_i h; subst h; simp [hk]
  · rename_i h; rw [if_neg (fun e => h e.symm)]
/-- Two throws exchange their landings. -/
theorem vpat_swap {xs : List Int} {a b : Nat} (hv : vpat xs = true) (hab : a < b) (hb : b < xs.length) {x y : Int} (hx : x = xs[b]?.getD 0 + b - a) (hy : y = xs[a]?.getD 0 - (b - a)) (h0 : 0 ≤ y) (h15 : x ≤ 15) : vpat ((xs.set a x).set b y) = true := by
  unfold vpat at hv ⊢
  rw [Bool.and_eq_true] at hv ⊢
  obtain ⟨ht, hn⟩ := hv
  have hl : ((xs.set a x).set b y).length = xs.length := by simp
  have hg : ∀ i, ((xs.set a x).set b y)[i]?.getD 0 = if i = b then y else if i = a then x else xs[i]?.getD 0 := fun i => by
    rw [getD_set (by simpa using hb), getD_set (by omega)]
  obtain ⟨t1, t2, t3⟩ := thr_iff.1 ht
  refine ⟨thr_iff.2 ⟨fun i hi => ?_, by rw [hl]; exact t2, by rw [hl]; exact t3⟩, ncl_iff.2 fun i j hij hj => ?_⟩
  · rw [hl] at hi
    rw [hg]
    have ha := t1 a (by omega)
    have hb' := t1 b hb
    have := t1 i hi
    split
    · omega
    · split <;> omega
  · rw [hl] at hj
    have hs : ∀ i, lnd ((xs.set a x).set b y) i = lnd xs (if i = b then a else if i = a then b else i) := fun i => by
      rw [lnd_eq, lnd_eq, hl, hg]
      by_cases e1 : i = b
      · rw [if_pos e1, if_pos e1, e1, hy]
        congr 1
        omega
      · rw [if_neg e1, if_neg e1]
        by_cases e2 : i = a
        · rw [if_pos e2, if_pos e2, e2, hx]
          congr 1
          omega
        · rw [if_neg e2, if_neg e2]
    have hN := ncl_iff.1 hn
    have hne : ∀ p q, p ≠ q → p < xs.length → q < xs.length → lnd xs p ≠ lnd xs q := fun p q h hp hq => by
      rcases Nat.lt_or_gt_of_ne h with h1 | h1
      · exact hN p q h1 hq
      · exact fun e => hN q p h1 hp e.symm
    rw [hs, hs]
    apply hne
    · split <;> split <;> (try split) <;> (try split) <;> omega
    · split
      · omega
      · split <;> omega
    · split
      · omega
      · split <;> omega
def DrawnV (w0 w : World) (g : Nat) (A : Option Addr) (n c : Nat) (xs : List Int) (top N : Nat) (e : Ending) (w' : World) : Prop :=
  ∃ (B : Option Addr) (d : Nat) (ys : List Int), e = .returned (.slice B N d) ∧ w'.ownsRow w.heap.size 2 1 (.slice B N d) N (ys.map (Value.int .i64)) ∧ vpat ys = true ∧ Srd w0 w' g A n c xs top ∧ w.grownBy w' (some g)
theorem fill_set {k : Int} {i m : Nat} : (List.replicate i k ++ List.replicate (m + 1) (0 : Int)).set i k = List.replicate (i + 1) k ++ List.replicate m 0 := by
  rw [List.set_append_right _ _ (by simp), List.length_replicate, Nat.sub_self, List.replicate_succ (n := m), List.set_cons_zero, List.replicate_succ' (n := i), List.append_assoc]
  rfl
theorem own_madeS (W : World) (lo r : Nat) (hlo : lo ≤ W.heap.size) (hr : r ≤ 1000) : (W.alloc (.cells (madeCells #[.int .i64 0] r) 2)).ownsRow lo 2 1 (.slice (some ⟨W.heap.size, 0, none⟩) r r) r ((List.replicate r (0 : Int)).map (Value.int .i64)) := by
  have hm : (madeCells #[Value.int .i64 0] r).toList = (List.replicate r (0 : Int)).map (Value.int .i64) := by
    rw [List.map_replicate]
    simp [madeCells]
    apply List.ext_getElem <;> simp [Nat.mod_one]
  refine ⟨by simp, .inr ⟨W.heap.size, r, madeCells #[.int .i64 0] r, rfl, hlo, heap_alloc_new _ _, Nat.le_refl _, by unfold maxLen; omega, by simp [size_madeCells], ?_⟩⟩
  rw [hm]
  exact List.take_of_length_le (by simp)
set_option maxHeartbeats 4000000 in
set_option maxRecDepth 100000 in
theorem l04Site_any (N : Nat) (hN : 1 ≤ N ∧ N ≤ 5) (w0 w : World) (g : Nat) (A : Option Addr) (n c : Nat) (xs : List Int) (top : Nat) (h : Srd w0 w g A n c xs top) (ht : top ≤ 700000000) :
    Calls Try.prog 54 #[.pointer (some ⟨g, 0, none⟩), .int .i64 N] w (DrawnV w0 w g A n c xs (top + 60) N) := by
  have hlt := h.lt
  have hmk := fun W => run_make_row' (P := Try.prog) 61 2 (.int .i64 0) 8 Try.underlying61 infoInt rfl .i64 .i64 N (by omega) (by omega) W
  have hO := own_madeS w w.heap.size N (Nat.le_refl _) (by omega)
  have hG0 := grown_new (World.grownBy.refl w (some g)) (.cells (madeCells #[.int .i64 0] N) 2)
  have hS0 := h.after ((Ext.refl w).alloc (.cells (madeCells #[.int .i64 0] N) 2))
  go_enter Try.func54, Try.ntmps54
  go_wp2_with fail
  (with_reducible refine (pick_any 5 w0 _ g A n c xs top hS0 (by omega)).mono ?_)
  rintro e w1 ⟨k, rfl, hk, hs1, hg1⟩
  have hkb : 0 ≤ k ∧ k ≤ 4 := by omega
  have hO1 := own_keep hO hg1 hlt
  have hG1 := grown_trans hG0 hg1
  have hz1 := hG1.size
  clear hmk hO hG0 hS0 hg1
  go_wp2
  go_loopw [7] (fun i wr => ∃ q : Nat, q ≤ N ∧ i = .int .i64 q ∧ wr.ownsRow w.heap.size 2 1 (.slice (some ⟨w.heap.size, 0, none⟩) N N) N ((List.replicate q k ++ List.replicate (N - q) 0).map (Value.int .i64)) ∧ Srd w0 wr g A n c xs (top + 2) ∧ w.grownBy wr (some g)) (fun i _ => N - (intOf i).toNat)
  case atStart => exact ⟨0, by omega, rfl, by simpa using hO1, hs1, hG1⟩
  case round =>
    clear hO1 hs1 hG1
    obtain ⟨q, hq, rfl, hzo, hsr, hgr⟩ := hrel
    by_cases hqN : q < N
    · have hqi : (q : Int) < N := by omega
      obtain ⟨c0, f0⟩ := own_cell hzo (p := q) hqN
      have hst := own_store hzo q k
      rw [show N - q = (N - q - 1) + 1 by omega, fill_set, show N - q - 1 = N - (q + 1) by omega] at hst
      have HST := Lib.hid hst
      clear hst
      go_wp2
      go_roundw
      case rel => exact ⟨q + 1, by omega, by go_num, HST.out, hsr.put (by show g < w.heap.size; omega) _, grown_put hgr (by show w.heap.size ≤ w.heap.size; omega) _⟩
      case measure => simp [intOf]; omega
    · obtain rfl : q = N := by omega
      rw [Nat.sub_self, List.replicate_zero, List.append_nil] at hzo
      go_wp2_with fail
      (with_reducible refine (pick_any 8 w0 _ g A n c xs _ hsr (by omega)).mono ?_)
      rintro e w2 ⟨j0, rfl, hj0, hs2, hg2⟩
      obtain ⟨j0, rfl⟩ : ∃ q : Nat, j0 = q := ⟨j0.toNat, by omega⟩
      have hzo2 := own_keep hzo hg2 hlt
      have hG2 := grown_trans hgr hg2
      have HV0 : Hid (vpat (List.replicate q k) = true) := vpat_rep hkb hN
      clear hzo hgr hsr hg2
      go_wp2
      go_loopw [8, 9, 10, 11, 12] (fun i _ _ _ _ wr => ∃ (j : Nat) (zs : List Int), j ≤ 7 ∧ i = .int .i64 j ∧ wr.ownsRow w.heap.size 2 1 (.slice (some ⟨w.heap.size, 0, none⟩) q q) q (zs.map (Value.int .i64)) ∧ vpat zs = true ∧ Srd w0 wr g A n c xs (top + 4 + 8 * (7 - j)) ∧ w.grownBy wr (some g)) (fun i _ _ _ _ _ => (intOf i).toNat)
      case atStart => exact ⟨j0, _, by omega, rfl, hzo2, HV0.out, hs2.more (by omega), hG2⟩
      case round =>
        clear hzo2 hs2 hG2
        obtain ⟨j, zs, hj, rfl, hzo, hvz, hsr, hgr⟩ := hrel
        have HVZ := Lib.hid hvz
        clear hvz
        have hzl : zs.length = q := by simpa using hzo.1
        by_cases hgo : 0 < j ∧ 1 < q
        · obtain ⟨hj1, hq1⟩ := hgo
          have hji : (0 : Int) < j := by omega
          have hqi : (1 : Int) < q := by omega
          go_wp2_with fail
          (with_reducible refine (pick_any ((q : Int) - 1) w0 _ g A n c xs _ hsr (by omega)).mono ?_)
          rintro e w3 ⟨a, rfl, ha, hs3, hg3⟩
          obtain ⟨a, rfl⟩ : ∃ z : Nat, a = z := ⟨a.toNat, by omega⟩
          have ha2 : a + 2 ≤ q := by omega
          have hzo3 := own_keep hzo hg3 hlt
          have hG3 := grown_trans hgr hg3
          clear hzo hgr hsr hg3
          go_wp2_with fail
          (with_reducible refine (pick_any ((q : Int) - 1 - a) w0 _ g A n c xs _ hs3 (by omega)).mono ?_)
          rintro e w4 ⟨b, rfl, hb, hs4, hg4⟩
          obtain ⟨b, rfl⟩ : ∃ z : Nat, b = z := ⟨b.toNat, by omega⟩
          have hb2 : a + 1 + b < q := by omega
          have hzo4 := own_keep hzo3 hg4 hlt
          have hG4 := grown_trans hG3 hg4
          clear hzo3 hG3 hs3 hg4
          have hthr := thr_iff.1 (by have := HVZ.out; unfold vpat at this; rw [Bool.and_eq_true] at this; exact this.1)
          have hva := hthr.1 a (by omega)
          have hvb := hthr.1 (a + 1 + b) (by omega)
          obtain ⟨ca, fa⟩ := own_cell hzo4 (p := a) (by omega)
          obtain ⟨cb, fb⟩ := own_cell hzo4 (p := a + 1 + b) (by omega)
          have HSW : Hid (∀ x y : Int, x = zs[a + 1 + b]?.getD 0 + ((a + 1 + b : Nat) : Int) - a → y = zs[a]?.getD 0 - (((a + 1 + b : Nat) : Int) - a) → 0 ≤ y → x ≤ 15 → vpat ((zs.set a x).set (a + 1 + b) y) = true) := fun x y h1 h2 h3 h4 => vpat_swap HVZ.out (by omega) (by omega) h1 h2 h3 h4
          clear hthr
          generalize zs[a]?.getD 0 = va at ca hva HSW
          generalize zs[a + 1 + b]?.getD 0 = vb at cb hvb HSW
          have hab : (a : Int) < q := by omega
          have hbb : (a : Int) + 1 + b < q := by omega
          go_wp2
          all_goals
            go_roundw
            case rel =>
              first
              | exact ⟨j - 1, zs, by omega, by rw [show ((j - 1 : Nat) : Int) = (j : Int) - 1 by omega], hzo4, HVZ.out, hs4.more (by omega), hG4⟩
              | exact ⟨j - 1, _, by omega, by rw [show ((j - 1 : Nat) : Int) = (j : Int) - 1 by omega], own_store (own_store hzo4 a _) (a + 1 + b) _, HSW.out _ _ (by omega) (by omega) (by omega) (by omega), ((hs4.put (by show g < w.heap.size; omega) _).put (by show g < w.heap.size; omega) _).more (by omega), grown_put (grown_put hG4 (by show w.heap.size ≤ w.heap.size; omega) _) (by show w.heap.size ≤ w.heap.size; omega) _⟩
            case measure => simp [intOf]; omega
        · by_cases hj1 : 0 < j
          · have hji : (0 : Int) < j := by omega
            have hqi : ¬ (1 : Int) < q := by omega
            have HT : Hid (DrawnV w0 w g A n c xs (top + 60) q (.returned (.slice (some ⟨w.heap.size, 0, none⟩) q q)) wr) := ⟨_, _, zs, rfl, hzo, HVZ.out, hsr.more (by omega), hgr⟩
            go_wp2
            go_ret
            exact HT.out
          · have hji : ¬ (0 : Int) < j := by omega
            have HT : Hid (DrawnV w0 w g A n c xs (top + 60) q (.returned (.slice (some ⟨w.heap.size, 0, none⟩) q q)) wr) := ⟨_, _, zs, rfl, hzo, HVZ.out, hsr.more (by omega), hgr⟩
            go_wp2
            go_ret
            exact HT.out
end Go.Proofs.Ytlalaomimfdepaa
