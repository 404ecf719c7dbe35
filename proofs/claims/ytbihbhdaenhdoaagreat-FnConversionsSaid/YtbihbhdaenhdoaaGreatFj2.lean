/- Psd Sd4 Adm Mdr in one text (a claim has at most 60 files). No condition but the stated bounds. -/
import Derived.Test.YtbihbhdaenhdoaaGreatFj6
import Derived.Test.YtbihbhdaenhdoaaGreatCla
import Derived.Test.YtbihbhdaenhdoaaGreatLow
import Derived.Test.YtbihbhdaenhdoaaGreatRowG
import Derived.Deep.CutRange
import Derived.Deep.RegionLawGrows
import Derived.Test.YtbihbhdaenhdoaaGreatSng
import Derived.Test.YtbihbhdaenhdoaaGreatMlo
import Derived.Test.YtbihbhdaenhdoaaGreatFj7
namespace Go.Proofs.YtbihbhdaenhdoaaGreat
set_option linter.unusedVariables false
set_option linter.unusedSimpArgs false
open Go.RowKit Go.Joins

theorem lnd_eq {xs : List Int} {i : Nat} : lnd xs i = ((i : Int) + xs[i]?.getD 0) % (xs.length : Int) := rfl
theorem ncl_iff {xs : List Int} : ncl xs = true ↔ ∀ i j, i < j → j < xs.length → lnd xs i ≠ lnd xs j := by
  unfold ncl
  rw [decide_eq_true_iff]
  exact ⟨fun h i j hij hj => h j hj i hij, fun h j hj i hij => h i j hij hj⟩
theorem vpat_rep {k : Int} {n : Nat} (hk : 0 ≤ k ∧ k ≤ 4) (hn : 1 ≤ n ∧ n ≤ 5) : vpat (List.replicate n k) = true := by
  rcases (by omega : k = 0 ∨ k = 1 ∨ k = 2 ∨ k = 3 ∨ k = 4) with rfl | rfl | rfl | rfl | rfl <;>
  rcases (by omega : n = 1 ∨ n = 2 ∨ n = 3 ∨ n = 4 ∨ n = 5) with rfl | rfl | rfl | rfl | rfl <;> decide
theorem getD_set {xs : List Int} {k i : Nat} {v : Int} (hk : k < xs.length) : (xs.set k v)[i]?.getD 0 = if i = k then v else xs[i]?.getD 0 := by
  rw [List.getElem?_set]
  split
  · rename_i h; subst h; simp [hk]
  · rename_i h; rw [if_neg (fun e => h e.symm)]
/-- Two throws exchange their landings. -/
theorem vpat_swap {xs : List Int} {a b : Nat} (hv : vpat xs = true) (hab : a < b) (hb : b < xs.length) {x y : Int} (hx : x = xs[b]?.getD 0 + b - a) (hy : y = xs[a]?.getD 0 - (b - a)) (h0 : 0 ≤ y) (h15 : x ≤ 15) : vpat ((xs.set a x).set b y) = true := by
  unfold vpat at hv ⊢
  rw [Bool.and_eq_true] at hv ⊢
  obtain ⟨ht, hn⟩ := hv
  have hl : ((xs.set a x).set b y).length = xs.length := by simp
  have hg : ∀ i, ((xs.set a x).set b y)[i]?.getD 0 = if i = b then y else if i = a then x else xs[i]?.getD 0 := fun i => by
    rw [getD_set (by simpa using hb), getD_set (by omega)]
  obtain ⟨t1, t2, t3⟩ := thr_iff.1 ht
  refine ⟨thr_iff.2 ⟨fun i hi => ?_, by rw [hl]; exact t2, by rw [hl]; exact t3⟩, ncl_iff.2 fun i j hij hj => ?_⟩
  · rw [hl] at hi
    rw [hg]
    have ha := t1 a (by omega)
    have hb' := t1 b hb
    have := t1 i hi
    split
    · omega
    · split <;> omega
  · rw [hl] at hj
    have hs : ∀ i, lnd ((xs.set a x).set b y) i = lnd xs (if i = b then a else if i = a then b else i) := fun i => by
      rw [lnd_eq, lnd_eq, hl, hg]
      by_cases e1 : i = b
      · rw [if_pos e1, if_pos e1, e1, hy]
        congr 1
        omega
      · rw [if_neg e1, if_neg e1]
        by_cases e2 : i = a
        · rw [if_pos e2, if_pos e2, e2, hx]
          congr 1
          omega
        · rw [if_neg e2, if_neg e2]
    have hN := ncl_iff.1 hn
    have hne : ∀ p q, p ≠ q → p < xs.length → q < xs.length → lnd xs p ≠ lnd xs q := fun p q h hp hq => by
      rcases Nat.lt_or_gt_of_ne h with h1 | h1
      · exact hN p q h1 hq
      · exact fun e => hN q p h1 hp e.symm
    rw [hs, hs]
    apply hne
    · split <;> split <;> (try split) <;> (try split) <;> omega
    · split
      · omega
      · split <;> omega
    · split
      · omega
      · split <;> omega
def DrawnVN (w0 w : World) (g : Nat) (A : Option Addr) (n c : Nat) (xs : List Int) (top N : Nat) (e : Ending) (w' : World) : Prop :=
  ∃ (B : Option Addr) (d : Nat) (ys : List Int), e = .returned (.slice B N d) ∧ w'.ownsRow w.heap.size 2 1 (.slice B N d) N (ys.map (Value.int .i64)) ∧ vpat ys = true ∧ Srd w0 w' g A n c xs top ∧ w.grownBy w' (some g)
theorem fill_set {k : Int} {i m : Nat} : (List.replicate i k ++ List.replicate (m + 1) (0 : Int)).set i k = List.replicate (i + 1) k ++ List.replicate m 0 := by
  rw [List.set_append_right _ _ (by simp), List.length_replicate, Nat.sub_self, List.replicate_succ (n := m), List.set_cons_zero, List.replicate_succ' (n := i), List.append_assoc]
  rfl
theorem own_madeS (W : World) (lo r : Nat) (hlo : lo ≤ W.heap.size) (hr : r ≤ 1000) : (W.alloc (.cells (madeCells #[.int .i64 0] r) 2)).ownsRow lo 2 1 (.slice (some ⟨W.heap.size, 0, none⟩) r r) r ((List.replicate r (0 : Int)).map (Value.int .i64)) := by
  have hm : (madeCells #[Value.int .i64 0] r).toList = (List.replicate r (0 : Int)).map (Value.int .i64) := by
    rw [List.map_replicate]
    simp [madeCells]
    apply List.ext_getElem <;> simp [Nat.mod_one]
  refine ⟨by simp, .inr ⟨W.heap.size, r, madeCells #[.int .i64 0] r, rfl, hlo, heap_alloc_new _ _, Nat.le_refl _, by unfold maxLen; omega, by simp [size_madeCells], ?_⟩⟩
  rw [hm]
  exact List.take_of_length_le (by simp)
set_option maxHeartbeats 4000000 in
set_option maxRecDepth 100000 in
theorem l04Site_any (N : Nat) (hN : 1 ≤ N ∧ N ≤ 5) (w0 w : World) (g : Nat) (A : Option Addr) (n c : Nat) (xs : List Int) (top : Nat) (h : Srd w0 w g A n c xs top) (ht : top ≤ 700000000) :
    Calls Tryz.prog 111 #[.pointer (some ⟨g, 0, none⟩), .int .i64 N] w (DrawnVN w0 w g A n c xs (top + 60) N) := by
  have hlt := h.lt
  have hmk := fun W => run_make_row' (P := Tryz.prog) 24 2 (.int .i64 0) 8 Tryz.underlying24 infoInt rfl .i64 .i64 N (by omega) (by omega) W
  have hO := own_madeS w w.heap.size N (Nat.le_refl _) (by omega)
  have hG0 := grown_new (World.grownBy.refl w (some g)) (.cells (madeCells #[.int .i64 0] N) 2)
  have hS0 := h.after ((Ext.refl w).alloc (.cells (madeCells #[.int .i64 0] N) 2))
  go_enter Tryz.func111, Tryz.ntmps111
  go_wp2_with fail
  (with_reducible refine (pick_any 5 w0 _ g A n c xs top hS0 (by omega)).mono ?_)
  rintro e w1 ⟨k, rfl, hk, hs1, hg1⟩
  have hkb : 0 ≤ k ∧ k ≤ 4 := by omega
  have hO1 := own_keep hO hg1 hlt
  have hG1 := grown_trans hG0 hg1
  have hz1 := hG1.size
  clear hmk hO hG0 hS0 hg1
  go_wp2
  go_loopw [7] (fun i wr => ∃ q : Nat, q ≤ N ∧ i = .int .i64 q ∧ wr.ownsRow w.heap.size 2 1 (.slice (some ⟨w.heap.size, 0, none⟩) N N) N ((List.replicate q k ++ List.replicate (N - q) 0).map (Value.int .i64)) ∧ Srd w0 wr g A n c xs (top + 2) ∧ w.grownBy wr (some g)) (fun i _ => N - (intOf i).toNat)
  case atStart => exact ⟨0, by omega, rfl, by simpa using hO1, hs1, hG1⟩
  case round =>
    clear hO1 hs1 hG1
    obtain ⟨q, hq, rfl, hzo, hsr, hgr⟩ := hrel
    by_cases hqN : q < N
    · have hqi : (q : Int) < N := by omega
      obtain ⟨c0, f0⟩ := own_cell hzo (p := q) hqN
      have hst := own_store hzo q k
      rw [show N - q = (N - q - 1) + 1 by omega, fill_set, show N - q - 1 = N - (q + 1) by omega] at hst
      have HST := Lib.hid hst
      clear hst
      go_wp2
      go_roundw
      case rel => exact ⟨q + 1, by omega, by go_num, HST.out, hsr.put (by show g < w.heap.size; omega) _, grown_put hgr (by show w.heap.size ≤ w.heap.size; omega) _⟩
      case measure => simp [intOf]; omega
    · obtain rfl : q = N := by omega
      rw [Nat.sub_self, List.replicate_zero, List.append_nil] at hzo
      go_wp2_with fail
      (with_reducible refine (pick_any 8 w0 _ g A n c xs _ hsr (by omega)).mono ?_)
      rintro e w2 ⟨j0, rfl, hj0, hs2, hg2⟩
      obtain ⟨j0, rfl⟩ : ∃ q : Nat, j0 = q := ⟨j0.toNat, by omega⟩
      have hzo2 := own_keep hzo hg2 hlt
      have hG2 := grown_trans hgr hg2
      have HV0 : Hid (vpat (List.replicate q k) = true) := vpat_rep hkb hN
      clear hzo hgr hsr hg2
      go_wp2
      go_loopw [8, 9, 10, 11, 12] (fun i _ _ _ _ wr => ∃ (j : Nat) (zs : List Int), j ≤ 7 ∧ i = .int .i64 j ∧ wr.ownsRow w.heap.size 2 1 (.slice (some ⟨w.heap.size, 0, none⟩) q q) q (zs.map (Value.int .i64)) ∧ vpat zs = true ∧ Srd w0 wr g A n c xs (top + 4 + 8 * (7 - j)) ∧ w.grownBy wr (some g)) (fun i _ _ _ _ _ => (intOf i).toNat)
      case atStart => exact ⟨j0, _, by omega, rfl, hzo2, HV0.out, hs2.more (by omega), hG2⟩
      case round =>
        clear hzo2 hs2 hG2
        obtain ⟨j, zs, hj, rfl, hzo, hvz, hsr, hgr⟩ := hrel
        have HVZ := Lib.hid hvz
        clear hvz
        have hzl : zs.length = q := by simpa using hzo.1
        by_cases hgo : 0 < j ∧ 1 < q
        · obtain ⟨hj1, hq1⟩ := hgo
          have hji : (0 : Int) < j := by omega
          have hqi : (1 : Int) < q := by omega
          go_wp2_with fail
          (with_reducible refine (pick_any ((q : Int) - 1) w0 _ g A n c xs _ hsr (by omega)).mono ?_)
          rintro e w3 ⟨a, rfl, ha, hs3, hg3⟩
          obtain ⟨a, rfl⟩ : ∃ z : Nat, a = z := ⟨a.toNat, by omega⟩
          have ha2 : a + 2 ≤ q := by omega
          have hzo3 := own_keep hzo hg3 hlt
          have hG3 := grown_trans hgr hg3
          clear hzo hgr hsr hg3
          go_wp2_with fail
          (with_reducible refine (pick_any ((q : Int) - 1 - a) w0 _ g A n c xs _ hs3 (by omega)).mono ?_)
          rintro e w4 ⟨b, rfl, hb, hs4, hg4⟩
          obtain ⟨b, rfl⟩ : ∃ z : Nat, b = z := ⟨b.toNat, by omega⟩
          have hb2 : a + 1 + b < q := by omega
          have hzo4 := own_keep hzo3 hg4 hlt
          have hG4 := grown_trans hG3 hg4
          clear hzo3 hG3 hs3 hg4
          have hthr := thr_iff.1 (by have := HVZ.out; unfold vpat at this; rw [Bool.and_eq_true] at this; exact this.1)
          have hva := hthr.1 a (by omega)
          have hvb := hthr.1 (a + 1 + b) (by omega)
          obtain ⟨ca, fa⟩ := own_cell hzo4 (p := a) (by omega)
          obtain ⟨cb, fb⟩ := own_cell hzo4 (p := a + 1 + b) (by omega)
          have HSW : Hid (∀ x y : Int, x = zs[a + 1 + b]?.getD 0 + ((a + 1 + b : Nat) : Int) - a → y = zs[a]?.getD 0 - (((a + 1 + b : Nat) : Int) - a) → 0 ≤ y → x ≤ 15 → vpat ((zs.set a x).set (a + 1 + b) y) = true) := fun x y h1 h2 h3 h4 => vpat_swap HVZ.out (by omega) (by omega) h1 h2 h3 h4
          clear hthr
          generalize zs[a]?.getD 0 = va at ca hva HSW
          generalize zs[a + 1 + b]?.getD 0 = vb at cb hvb HSW
          have hab : (a : Int) < q := by omega
          have hbb : (a : Int) + 1 + b < q := by omega
          go_wp2
          all_goals
            go_roundw
            case rel =>
              first
              | exact ⟨j - 1, zs, by omega, by rw [show ((j - 1 : Nat) : Int) = (j : Int) - 1 by omega], hzo4, HVZ.out, hs4.more (by omega), hG4⟩
              | exact ⟨j - 1, _, by omega, by rw [show ((j - 1 : Nat) : Int) = (j : Int) - 1 by omega], own_store (own_store hzo4 a _) (a + 1 + b) _, HSW.out _ _ (by omega) (by omega) (by omega) (by omega), ((hs4.put (by show g < w.heap.size; omega) _).put (by show g < w.heap.size; omega) _).more (by omega), grown_put (grown_put hG4 (by show w.heap.size ≤ w.heap.size; omega) _) (by show w.heap.size ≤ w.heap.size; omega) _⟩
            case measure => simp [intOf]; omega
        · by_cases hj1 : 0 < j
          · have hji : (0 : Int) < j := by omega
            have hqi : ¬ (1 : Int) < q := by omega
            have HT : Hid (DrawnVN w0 w g A n c xs (top + 60) q (.returned (.slice (some ⟨w.heap.size, 0, none⟩) q q)) wr) := ⟨_, _, zs, rfl, hzo, HVZ.out, hsr.more (by omega), hgr⟩
            go_wp2
            go_ret
            exact HT.out
          · have hji : ¬ (0 : Int) < j := by omega
            have HT : Hid (DrawnVN w0 w g A n c xs (top + 60) q (.returned (.slice (some ⟨w.heap.size, 0, none⟩) q q)) wr) := ⟨_, _, zs, rfl, hzo, HVZ.out, hsr.more (by omega), hgr⟩
            go_wp2
            go_ret
            exact HT.out
end Go.Proofs.YtbihbhdaenhdoaaGreat

namespace Go.Proofs.YtbihbhdaenhdoaaGreat
set_option linter.unusedVariables false
set_option linter.unusedSimpArgs false
open Go.ChangeShapes Go.WideShapes Go.ChangeAt Go.RowKit Go.Joins Go.Deep

/-- Throws from 0 to 15. -/
def B15 (ys : List Int) : Prop := ∀ y ∈ ys, 0 ≤ y ∧ y ≤ 15
theorem B15.wide {ys : List Int} (h : B15 ys) : ∀ y ∈ ys, -9223372036854775808 ≤ y ∧ y ≤ 9223372036854775807 := fun y hy => by have := h y hy; omega
theorem B15.get {ys : List Int} (h : B15 ys) {i : Nat} (hi : i < ys.length) : 0 ≤ ys[i]?.getD 0 ∧ ys[i]?.getD 0 ≤ 15 := by
  rw [List.getElem?_eq_getElem hi]
  exact h _ (List.getElem_mem hi)
theorem B15.put {ys : List Int} (h : B15 ys) {x : Int} (hx : 0 ≤ x ∧ x ≤ 15) (k : Nat) : B15 (ys.take k ++ [x] ++ ys.drop k) := fun y hy => by
  simp only [List.mem_append, List.mem_singleton] at hy
  rcases hy with (hy | hy) | hy
  · exact h y (List.mem_of_mem_take hy)
  · subst hy; exact hx
  · exact h y (List.mem_of_mem_drop hy)
theorem ownR_ints {w w' : World} {A : Option Addr} {n c : Nat} {ys : List Int} (h : OwnR 2 1 w w' (.slice A n c) n ys) (hn : n ≤ 1048576) (hb : B15 ys) : Ints w' A n ys := by
  have := h.row.ints (by omega) hb.wide
  rwa [Nat.mul_one] at this
/-- A row of the call's own, of throws, handed back. -/
def RetSt (w : World) (m : Nat) (e : Ending) (w' : World) : Prop := ∃ A c ys, e = .returned (.slice A ys.length c) ∧ Row w' w.heap.size w'.heap.size 2 1 A ys.length c ys ∧ Ext w w' ∧ ys.length ≤ m ∧ B15 ys
theorem Ints.qt {w w' : World} {A : Option Addr} {n : Nat} {ys : List Int} (h : Ints w A n ys) (k : Qt w w') : Ints w' A n ys := h.ext (Ext.qt (Ext.refl _) k)
theorem blkD_ext {w w' : World} {b : Nat} {o : Obj} (hb : w.heap[b]? = some o) (k : Ext w w') : w'.heap[b]? = some o :=
  (Below.block k b (Array.getElem?_eq_some_iff.1 hb).1).trans hb
/-- What the first append leaves. -/
def Nxt (wr : World) (m : Nat) (zs : List Int) (p : Value) (wx : World) : Prop := ∃ g c, p = .slice (some ⟨g, 0, none⟩) m c ∧ OwnR 2 1 wr wx (.slice (some ⟨g, 0, none⟩) m c) m zs
set_option maxHeartbeats 8000000 in
set_option maxRecDepth 100000 in
theorem l04Sort_any (A : Option Addr) (n c : Nat) (xs : List Int) (w : World) (hI : Ints w A n xs) (hn : n ≤ 8) (hb : B15 xs) :
    Calls Tryz.prog 125 #[.slice A n c] w (RetSt w 9) := by
  have hl := hI.len
  have h0 := ownR_empty (Ext.refl w) 2 1
  go_enter Tryz.func125, Tryz.ntmps125
  go_wp2
  go_loopw [3, 4, 5, 6] (fun v i _ _ wr => ∃ (j g d : Nat) (ys : List Int), j ≤ n ∧ i = .int .i64 j ∧ v = .slice (some ⟨g, 0, none⟩) ys.length d ∧ OwnR 2 1 w wr (.slice (some ⟨g, 0, none⟩) ys.length d) ys.length ys ∧ ys.length ≤ j ∧ Hid (B15 ys)) (fun _ i _ _ _ => n - (intOf i).toNat)
  case atStart => exact ⟨0, _, _, [], Nat.zero_le _, rfl, rfl, h0, Nat.le_refl _, (fun y hy => by cases hy)⟩
  case round =>
    clear h0
    obtain ⟨j, g, d, ys, hj, rfl, rfl, hown, hyl, hyb⟩ := hrel
    have HO := Lib.hid hown
    have hX := hown.ext
    have hgl := World.ownsRow.lt hown.own g rfl
    have hdd : ys.length ≤ d := RowG.cap (w := wr) (lo := w.heap.size) (hi := wr.heap.size) (e := 2) (m := 1) (A := some ⟨g, 0, none⟩) (cs := ys.map (Value.int .i64)) ⟨hown.own, fun a ha => by cases ha; exact hgl.2⟩
    clear hown
    by_cases hjn : j < n
    rotate_left
    · obtain rfl : j = n := by omega
      by_cases hy0 : ys.length = 0
      · have hyi : ((ys.length : Nat) : Int) = 0 := by omega
        have h1 := ownR_ints HO.out (by omega) hyb.out
        clear h1
        rw [hy0]
        clear hyi
        go_wp2
        go_ret
        refine ⟨_, _, [0], rfl, OwnR.row (w := w) ⟨⟨by simp, .inr ⟨_, _, _, rfl, hX.size, heap_alloc_new _ _, Nat.le_refl _, by unfold maxLen; omega, by simp, by rfl⟩⟩, hX.alloc _⟩, hX.alloc _, by simp, fun y hy => by simp at hy; omega⟩
      · have hyi : ¬ ((ys.length : Nat) : Int) = 0 := by omega
        have HF : Hid (RetSt w 9 (.returned (.slice (some ⟨g, 0, none⟩) ys.length d)) wr) := ⟨_, _, ys, rfl, HO.out.row, hX, by omega, hyb.out⟩
        generalize ys.length = m at *
        go_wp2
        go_ret
        exact HF.out
    obtain ⟨b, off, hA, hbl, hcell⟩ := (hI.ext hX).at_ (by omega)
    subst hA
    have c1 := hcell j hjn
    have hxb := hb.get (i := j) (by omega)
    have hji : (j : Int) < n := by omega
    clear hcell
    generalize xs[j]?.getD 0 = x at c1 hxb
    by_cases hx0 : x = 0
    · subst hx0
      go_wp2
      go_roundw
      case rel => exact ⟨j + 1, g, d, ys, by omega, by go_num, rfl, HO.out, by omega, hyb⟩
      case measure => simp [intOf]; omega
    have hx0b : (x == 0) = false := beq_eq_false_iff_ne.2 hx0
    obtain ⟨m, hm⟩ : ∃ m, ys.length = m := ⟨_, rfl⟩
    rw [hm] at HO hdd hyl
    rw [hm]
    have HM := Lib.hid hm
    clear hm hx0
    obtain ⟨wo, rfl⟩ : ∃ wo : World, wo = wr := ⟨_, rfl⟩
    go_wp2
    go_loopw [5] (fun kk wz => ∃ k : Nat, k ≤ m ∧ kk = .int .i64 k ∧ Qt wo wz) (fun kk _ => (intOf kk).toNat)
    case atStart => exact ⟨m, Nat.le_refl _, rfl, Qt.refl _⟩
    case round =>
      obtain ⟨k, hk, rfl, q, rfl⟩ := hrel
      by_cases hgo : 0 < k
      · obtain ⟨kk, rfl⟩ : ∃ kk, k = kk + 1 := ⟨k - 1, by omega⟩
        obtain ⟨c2, _⟩ := own_cell HO.out.own (p := kk) (by omega)
        have hkk : (0 : Int) < (kk : Int) + 1 := by omega
        have hkm : (kk : Int) < m := by omega
        generalize ys[kk]?.getD 0 = y at c2
        by_cases hlt : y < x
        · have hd : decide (y < x) = true := decide_eq_true hlt
          go_wp2
          go_quiet (fail)
          go_wp2
          go_roundw
          case rel => exact ⟨kk, by omega, by go_num, (by first | exact ⟨_, rfl⟩ | exact ⟨_, World.drewN_drewN _ _ _⟩)⟩
          case measure => simp [intOf]
        · have hd : decide (y < x) = false := decide_eq_false hlt
          go_wp2
          go_quiet (fail)
          have hki : ((kk : Int) + 1) ≤ (m : Int) := by omega
          have hkd : ((kk : Int) + 1) ≤ (d : Int) := by omega
          have hk0' : (0 : Int) ≤ ((kk : Int) + 1) := by omega
          have hkd2 : (m : Int) ≤ d := by omega
          have hkn : (kk + 1) ≤ d := by omega
          have HIT : Hid (Ints wo (some ⟨g, 0, none⟩) (kk + 1) (ys.take (kk + 1))) := (ownR_ints HO.out (by omega) hyb.out).take hk
          have HID : Hid (Ints wo (some ⟨g, 0 + (kk + 1), none⟩) (m - (kk + 1)) (ys.drop (kk + 1))) := (ownR_ints HO.out (by omega) hyb.out).drop hk
          have HPUT : Hid (B15 (ys.take (kk + 1) ++ [x] ++ ys.drop (kk + 1))) := hyb.out.put hxb (kk + 1)
          have HLEN : Hid ((ys.take (kk + 1) ++ [x] ++ ys.drop (kk + 1)).length = m + 1) := by have := HM.out; show _ = _; simp; omega
          go_upto_region 9 with fail
          go_cut [6] from 37 to 46 (fun p6 wx => Nxt wo ((kk + 1) + 1) (ys.take (kk + 1) ++ [x]) p6 wx)
          case first =>
            go_region_law (first | (go_simp; go_at_call 70; (with_reducible refine (l00Own_any _ (kk + 1) d (ys.take (kk + 1)) _ (HIT.out.ext (by with_reducible (repeat (first | exact Ext.refl _ | apply Ext.drewN | apply Ext.drew | apply Ext.alloc | (refine Ext.set ?_ (by first | (simp; done) | (simp; omega) | omega) _) | (refine Ext.trans ?_ (by assumption)))))) (by omega)).mono ?_); rintro e w6 ⟨A6, c6, rfl, ho6⟩; have hq6 := ho6.ext; have k6 : ∀ o, w6.cell? ⟨b, o, none⟩ = _ := fun o => hq6.cells.1 _ o (by first | (simp; done) | (simp; omega) | omega); (try have kb6 : w6.heap[wo.heap.size]? = some (.cells #[.int .i64 x] 2 (0, 0)) := blkD_ext (by first | exact heap_alloc_new _ _ | exact heap_alloc_new (wo.drewN _) _) hq6)) | (refine stepM elInt (by omega) rfl _ _ Tryz.underlying24 rfl rfl (ho6.trans (by with_reducible (repeat (first | exact Ext.refl _ | apply Ext.drewN | apply Ext.drew | apply Ext.alloc | (refine Ext.set ?_ (by first | (simp; done) | (simp; omega) | omega) _) | (refine Ext.trans ?_ (by assumption)))))) (by omega) rfl (by first | exact kb6 | exact heap_alloc_new _ _) (ys := [x]) (by rfl) (by rfl) ?_; intro v7 w7 ho7))
            all_goals
              go_wp2_with fail
              go_meet
              obtain ⟨A8, c8, rfl⟩ := ho7.forms
              obtain ⟨g8, hA8, -⟩ := (show RowG w7 _ w7.heap.size 2 1 A8 ((kk + 1) + 1) c8 _ from ⟨ho7.own, fun a ha => (World.ownsRow.lt ho7.own a.block (by rw [ha]; rfl)).2⟩).form (by omega)
              subst hA8
              exact ⟨_, _, rfl, ho7.rebase (by with_reducible (repeat (first | exact Ext.refl _ | apply Ext.drewN | apply Ext.drew | apply Ext.alloc | (refine Ext.set ?_ (by first | (simp; done) | (simp; omega) | omega) _) | (refine Ext.trans ?_ (by assumption)))))⟩
          case rest =>
            rename World => wx
            obtain ⟨g8, c8, rfl, ho8⟩ := hcut
            have hl8 := World.ownsRow.lt ho8.own g8 rfl
            have hI8 := HID.out.ext ho8.ext
            have hX8 := Lib.hid (hX.trans ho8.ext)
            have hsz8 := ho8.ext.size
            have hszo := hX.size
            obtain ⟨zs, hzs⟩ : ∃ zs, ys.take (kk + 1) ++ [x] ++ ys.drop (kk + 1) = zs := ⟨_, rfl⟩
            rw [hzs] at HPUT HLEN
            have HZS := Lib.hid hzs
            clear hzs HID HIT hX
            have hlo8 := ho8.own
            clear ho8
            by_cases hdk : d = (kk + 1)
            · have hI9 : Ints wx (some ⟨g, 0, none⟩) (m - (kk + 1)) (ys.drop (kk + 1)) := ⟨hI8.len, hI8.small, hI8.bds, fun h => absurd h (by omega)⟩
              go_wp2_with (at_builtin; refine appI rfl _ _ rfl rfl hlo8 (by omega) rfl (by first | exact hI9 | exact hI8) (by omega) ?_; intro v9 w9 ho9 hg9 hat9)
              have hnn : (kk + 1) + 1 + (m - (kk + 1)) = zs.length := by have := HLEN.out; omega
              (try simp only [Nat.sub_zero] at hnn)
              rw [HZS.out, hnn] at ho9
              clear hnn
              obtain ⟨g1, c1, hv1, hg1a, hg1b⟩ := World.ownsRow.form ho9 (by have := HLEN.out; omega)
              subst hv1
              have HE9 : Hid (Ext w w9) := hX8.out.grown hg9 (fun k hk => by cases hk; show w.heap.size ≤ g8; omega)
              have HO9 : Hid (OwnR 2 1 w w9 (.slice (some ⟨g1, 0, none⟩) zs.length c1) zs.length zs) := ⟨ownsRow_le ho9 hszo, HE9.out⟩
              clear ho9 hg9 hat9
              go_roundw
              case rel => exact ⟨j + 1, g1, c1, zs, by omega, by go_num, rfl, HO9.out, by have := HLEN.out; omega, HPUT⟩
              case measure => simp [intOf]; omega
            · go_wp2_with (at_builtin; refine appI rfl _ _ rfl rfl hlo8 (by omega) rfl (by first | exact hI8 | simpa using hI8) (by omega) ?_; intro v9 w9 ho9 hg9 hat9)
              have hnn : (kk + 1) + 1 + (m - (kk + 1)) = zs.length := by have := HLEN.out; omega
              (try simp only [Nat.sub_zero] at hnn)
              rw [HZS.out, hnn] at ho9
              clear hnn
              obtain ⟨g1, c1, hv1, hg1a, hg1b⟩ := World.ownsRow.form ho9 (by have := HLEN.out; omega)
              subst hv1
              have HE9 : Hid (Ext w w9) := hX8.out.grown hg9 (fun k hk => by cases hk; show w.heap.size ≤ g8; omega)
              have HO9 : Hid (OwnR 2 1 w w9 (.slice (some ⟨g1, 0, none⟩) zs.length c1) zs.length zs) := ⟨ownsRow_le ho9 hszo, HE9.out⟩
              clear ho9 hg9 hat9
              go_roundw
              case rel => exact ⟨j + 1, g1, c1, zs, by omega, by go_num, rfl, HO9.out, by have := HLEN.out; omega, HPUT⟩
              case measure => simp [intOf]; omega
      · obtain rfl : k = 0 := by omega
        go_wp2
        go_quiet (fail)
        have hki : (0 : Int) ≤ (m : Int) := by omega
        have hkd : (0 : Int) ≤ (d : Int) := by omega
        have hk0' : (0 : Int) ≤ (0 : Int) := by omega
        have hkd2 : (m : Int) ≤ d := by omega
        have hkn : 0 ≤ d := by omega
        have HIT : Hid (Ints wo (some ⟨g, 0, none⟩) 0 (ys.take 0)) := (ownR_ints HO.out (by omega) hyb.out).take hk
        have HID : Hid (Ints wo (some ⟨g, 0 + 0, none⟩) (m - 0) (ys.drop 0)) := (ownR_ints HO.out (by omega) hyb.out).drop hk
        have HPUT : Hid (B15 (ys.take 0 ++ [x] ++ ys.drop 0)) := hyb.out.put hxb 0
        have HLEN : Hid ((ys.take 0 ++ [x] ++ ys.drop 0).length = m + 1) := by have := HM.out; show _ = _; simp; omega
        go_upto_region 9 with fail
        go_cut [6] from 37 to 46 (fun p6 wx => Nxt wo (0 + 1) (ys.take 0 ++ [x]) p6 wx)
        case first =>
          go_region_law (first | (go_simp; go_at_call 70; (with_reducible refine (l00Own_any _ 0 d (ys.take 0) _ (HIT.out.ext (by with_reducible (repeat (first | exact Ext.refl _ | apply Ext.drewN | apply Ext.drew | apply Ext.alloc | (refine Ext.set ?_ (by first | (simp; done) | (simp; omega) | omega) _) | (refine Ext.trans ?_ (by assumption)))))) (by omega)).mono ?_); rintro e w6 ⟨A6, c6, rfl, ho6⟩; have hq6 := ho6.ext; have k6 : ∀ o, w6.cell? ⟨b, o, none⟩ = _ := fun o => hq6.cells.1 _ o (by first | (simp; done) | (simp; omega) | omega); (try have kb6 : w6.heap[wo.heap.size]? = some (.cells #[.int .i64 x] 2 (0, 0)) := blkD_ext (by first | exact heap_alloc_new _ _ | exact heap_alloc_new (wo.drewN _) _) hq6)) | (refine stepM elInt (by omega) rfl _ _ Tryz.underlying24 rfl rfl (ho6.trans (by with_reducible (repeat (first | exact Ext.refl _ | apply Ext.drewN | apply Ext.drew | apply Ext.alloc | (refine Ext.set ?_ (by first | (simp; done) | (simp; omega) | omega) _) | (refine Ext.trans ?_ (by assumption)))))) (by omega) rfl (by first | exact kb6 | exact heap_alloc_new _ _) (ys := [x]) (by rfl) (by rfl) ?_; intro v7 w7 ho7))
          all_goals
            go_wp2_with fail
            go_meet
            obtain ⟨A8, c8, rfl⟩ := ho7.forms
            obtain ⟨g8, hA8, -⟩ := (show RowG w7 _ w7.heap.size 2 1 A8 (0 + 1) c8 _ from ⟨ho7.own, fun a ha => (World.ownsRow.lt ho7.own a.block (by rw [ha]; rfl)).2⟩).form (by omega)
            subst hA8
            exact ⟨_, _, rfl, ho7.rebase (by with_reducible (repeat (first | exact Ext.refl _ | apply Ext.drewN | apply Ext.drew | apply Ext.alloc | (refine Ext.set ?_ (by first | (simp; done) | (simp; omega) | omega) _) | (refine Ext.trans ?_ (by assumption)))))⟩
        case rest =>
          rename World => wx
          obtain ⟨g8, c8, rfl, ho8⟩ := hcut
          have hl8 := World.ownsRow.lt ho8.own g8 rfl
          have hI8 := HID.out.ext ho8.ext
          have hX8 := Lib.hid (hX.trans ho8.ext)
          have hsz8 := ho8.ext.size
          have hszo := hX.size
          obtain ⟨zs, hzs⟩ : ∃ zs, ys.take 0 ++ [x] ++ ys.drop 0 = zs := ⟨_, rfl⟩
          rw [hzs] at HPUT HLEN
          have HZS := Lib.hid hzs
          clear hzs HID HIT hX
          have hlo8 := ho8.own
          clear ho8
          by_cases hdk : d = 0
          · have hI9 : Ints wx (some ⟨g, 0, none⟩) (m - 0) (ys.drop 0) := ⟨hI8.len, hI8.small, hI8.bds, fun h => absurd h (by omega)⟩
            go_wp2_with (at_builtin; refine appI rfl _ _ rfl rfl hlo8 (by omega) rfl (by first | exact hI9 | exact hI8) (by omega) ?_; intro v9 w9 ho9 hg9 hat9)
            have hnn : 0 + 1 + (m - 0) = zs.length := by have := HLEN.out; omega
            (try simp only [Nat.sub_zero] at hnn)
            rw [HZS.out, hnn] at ho9
            clear hnn
            obtain ⟨g1, c1, hv1, hg1a, hg1b⟩ := World.ownsRow.form ho9 (by have := HLEN.out; omega)
            subst hv1
            have HE9 : Hid (Ext w w9) := hX8.out.grown hg9 (fun k hk => by cases hk; show w.heap.size ≤ g8; omega)
            have HO9 : Hid (OwnR 2 1 w w9 (.slice (some ⟨g1, 0, none⟩) zs.length c1) zs.length zs) := ⟨ownsRow_le ho9 hszo, HE9.out⟩
            clear ho9 hg9 hat9
            go_roundw
            case rel => exact ⟨j + 1, g1, c1, zs, by omega, by go_num, rfl, HO9.out, by have := HLEN.out; omega, HPUT⟩
            case measure => simp [intOf]; omega
          · go_wp2_with (at_builtin; refine appI rfl _ _ rfl rfl hlo8 (by omega) rfl (by first | exact hI8 | simpa using hI8) (by omega) ?_; intro v9 w9 ho9 hg9 hat9)
            have hnn : 0 + 1 + (m - 0) = zs.length := by have := HLEN.out; omega
            (try simp only [Nat.sub_zero] at hnn)
            rw [HZS.out, hnn] at ho9
            clear hnn
            obtain ⟨g1, c1, hv1, hg1a, hg1b⟩ := World.ownsRow.form ho9 (by have := HLEN.out; omega)
            subst hv1
            have HE9 : Hid (Ext w w9) := hX8.out.grown hg9 (fun k hk => by cases hk; show w.heap.size ≤ g8; omega)
            have HO9 : Hid (OwnR 2 1 w w9 (.slice (some ⟨g1, 0, none⟩) zs.length c1) zs.length zs) := ⟨ownsRow_le ho9 hszo, HE9.out⟩
            clear ho9 hg9 hat9
            go_roundw
            case rel => exact ⟨j + 1, g1, c1, zs, by omega, by go_num, rfl, HO9.out, by have := HLEN.out; omega, HPUT⟩
            case measure => simp [intOf]; omega

end Go.Proofs.YtbihbhdaenhdoaaGreat

namespace Go.Proofs.YtbihbhdaenhdoaaGreat
set_option linter.unusedVariables false
set_option linter.unusedSimpArgs false
open Go.ChangeShapes Go.WideShapes Go.ChangeAt Go.RowKit Go.Joins Go.Deep

/-- A struct of rows and a code; the rows are a pattern where the code is 0. -/
def RetAd (w : World) (n : Nat) (e : Ending) (w' : World) : Prop := ∃ (C : Option Addr) (q f : Nat) (r : Int) (K : List (List Int)), e = .returned (.tuple #[.agg #[.slice C q f], .int .i64 r]) ∧ Ext w w' ∧ (r = 0 → q = n ∧ LRow w' w.heap.size w'.heap.size C q f K ∧ vmul K = true)
/-- The rows are short and of throws. -/
def RB (K : List (List Int)) : Prop := ∀ i, i < K.length → (ll K i).length ≤ 9 ∧ B15 (ll K i)
theorem RB.push {K : List (List Int)} {zs : List Int} (h : RB K) (hl : zs.length ≤ 9) (hb : B15 zs) : RB (K ++ [zs]) := fun i hi => by
  by_cases e : i < K.length
  · have : ll (K ++ [zs]) i = ll K i := by unfold ll; rw [List.getElem?_append_left e]
    rw [this]
    exact h i e
  · simp at hi
    obtain rfl : i = K.length := by omega
    have : ll (K ++ [zs]) K.length = zs := by unfold ll; simp
    rw [this]
    exact ⟨hl, hb⟩
theorem RB.bdL {K : List (List Int)} (h : RB K) : bdL K := fun i hi => ⟨by have := (h i hi).1; omega, fun y hy => (h i hi).2.wide y hy⟩
theorem vmul_b15 {L : List (List Int)} (h : vmul L = true) {i : Nat} (hi : i < L.length) : (ll L i).length ≤ 4 ∧ B15 (ll L i) := by
  have hs : stks L = true := by unfold vmul at h; rw [Bool.and_eq_true] at h; exact h.1
  have h3 := (stks_iff hs).2.2 i hi
  refine ⟨h3.2.1, fun y hy => ?_⟩
  obtain ⟨k, hk, e⟩ := List.getElem_of_mem hy
  have := h3.2.2.1 k hk
  rw [List.getElem?_eq_getElem hk] at this
  simp at this
  omega
theorem B15.app {xs ys : List Int} (h : B15 xs) (k : B15 ys) : B15 (xs ++ ys) := fun y hy => by
  rcases List.mem_append.1 hy with e | e
  · exact h y e
  · exact k y e
/-- Throws that are read. -/
def Rd8 (wr : World) (p : Value) (wx : World) : Prop := ∃ A m c zs, p = .slice A m c ∧ Ints wx A m zs ∧ m ≤ 8 ∧ B15 zs ∧ Ext wr wx
set_option maxHeartbeats 8000000 in
set_option maxRecDepth 100000 in
theorem AddMulti_any (A B : Option Addr) (n c d : Nat) (L M : List (List Int)) (w : World) (hI : Lists w A n L) (hJ : Lists w B n M) (hL : vmul L = true) (hM : vmul M = true) :
    Calls Tryz.prog 112 #[.agg #[.slice A n c], .agg #[.slice B n d]] w (RetAd w n) := by
  have hlL := hI.len
  have hlM := hJ.len
  have HBL : Hid (∀ i, i < n → (ll L i).length ≤ 4 ∧ B15 (ll L i)) := fun i hi => vmul_b15 hL (by omega)
  have HBM : Hid (∀ i, i < n → (ll M i).length ≤ 4 ∧ B15 (ll M i)) := fun i hi => vmul_b15 hM (by omega)
  have hn12 : n ≤ 12 := by
    have hs : stks L = true := by unfold vmul at hL; rw [Bool.and_eq_true] at hL; exact hL.1
    have := (stks_iff hs).2.1
    omega
  have HL := Lib.hid hL
  have HM := Lib.hid hM
  clear hL hM hlL hlM
  have HW : Hid (Ext w (((w.alloc (.cells #[.slice A n c] 27)).alloc (.cells #[.slice B n d] 27)).alloc (.cells #[.slice none 0 0] 27)) ∧ MBox (((w.alloc (.cells #[.slice A n c] 27)).alloc (.cells #[.slice B n d] 27)).alloc (.cells #[.slice none 0 0] 27)) w.heap.size 0 A n c ∧ MBox (((w.alloc (.cells #[.slice A n c] 27)).alloc (.cells #[.slice B n d] 27)).alloc (.cells #[.slice none 0 0] 27)) (w.heap.size + 1) 0 B n d ∧ MBox (((w.alloc (.cells #[.slice A n c] 27)).alloc (.cells #[.slice B n d] 27)).alloc (.cells #[.slice none 0 0] 27)) (w.heap.size + 2) 0 none 0 0 ∧ (((w.alloc (.cells #[.slice A n c] 27)).alloc (.cells #[.slice B n d] 27)).alloc (.cells #[.slice none 0 0] 27)).frozen? ⟨w.heap.size + 2, 0, none⟩ = false) :=
    ⟨(((Ext.refl _).alloc _).alloc _).alloc _, ⟨by simp; omega, by go_simp⟩, ⟨by simp, by go_simp⟩, ⟨by simp, by go_simp⟩, by go_simp⟩
  obtain ⟨hE0, B0, B1, B2, F2⟩ := HW.out
  have HE0 := Lib.hid hE0
  have HB0 := Lib.hid B0
  have HB1 := Lib.hid B1
  have HB2 := Lib.hid B2
  have HF2 := Lib.hid F2
  clear HW hE0 B0 B1 B2 F2
  go_enter Tryz.func112, Tryz.ntmps112
  go_wp2_with fail
  (with_reducible refine (l04Ok_is w.heap.size 0 A n c L _ HL.out _ HB0.out (hI.ext HE0.out)).mono ?_)
  rintro e w1 ⟨rfl, hx1⟩
  have hz1 := hx1.size
  have hE1 : Hid (Ext w w1) := HE0.out.trans hx1
  have A0 : Hid (MBox w1 w.heap.size 0 A n c) := HB0.out.ext hx1
  have A1 : Hid (MBox w1 (w.heap.size + 1) 0 B n d) := HB1.out.ext hx1
  have A2 : Hid (MBox w1 (w.heap.size + 2) 0 none 0 0) := HB2.out.ext hx1
  have A3 : Hid (w1.frozen? ⟨w.heap.size + 2, 0, none⟩ = false) := (hx1.cells.2 _ 0 HB2.out.lt).trans HF2.out
  clear hx1 HE0 HB0 HB1 HB2 HF2 hz1
  have a0 := A0.out.c0
  have a1 := A1.out.c0
  go_wp2_with fail
  (with_reducible refine (l04Ok_is (w.heap.size + 1) 0 B n d M _ HM.out _ A1.out (hJ.ext hE1.out)).mono ?_)
  rintro e w2 ⟨rfl, hx2⟩
  clear a0 a1
  have HE2 : Hid (Ext w w2) := hE1.out.trans hx2
  have B0 : Hid (MBox w2 w.heap.size 0 A n c) := A0.out.ext hx2
  have B1 : Hid (MBox w2 (w.heap.size + 1) 0 B n d) := A1.out.ext hx2
  have B2 : Hid (MBox w2 (w.heap.size + 2) 0 none 0 0) := A2.out.ext hx2
  have B3 : Hid (w2.frozen? ⟨w.heap.size + 2, 0, none⟩ = false) := (hx2.cells.2 _ 0 A2.out.lt).trans A3.out
  clear hx2 A0 A1 A2 A3 hE1
  have b0 := B0.out.c0
  have b1 := B1.out.c0
  have b2 := B2.out.c0
  have b3 := B3.out
  have q2 := B2.out.lt
  have q1 : w.heap.size + 1 < w2.heap.size := by omega
  have q0 : w.heap.size < w2.heap.size := by omega
  have HX3 : Hid (Ext w2 (w2.alloc (.cells #[.slice none 0 0] 27))) := (Ext.refl _).alloc _
  have HS0 : Hid (MRows w (w2.alloc (.cells #[.slice none 0 0] 27)) w2.heap.size (w2.heap.size + 1) [] 0) :=
    ⟨by omega, by simp, HE2.out.trans HX3.out, by omega, by go_simp, none, 0, by go_simp, LRow.nil _ _ _⟩
  go_wp2
  go_loopw [7, 8] (fun i _ wr => ∃ (k : Nat) (K : List (List Int)), k ≤ n ∧ i = .int .i64 k ∧ Hid (Ext w2 wr) ∧ Hid (MRows w wr w2.heap.size (w2.heap.size + 1) K k) ∧ Hid (RB K)) (fun i _ _ => n - (intOf i).toNat)
  case atStart => exact ⟨0, [], Nat.zero_le _, rfl, HX3, HS0, (fun i hi => by simp at hi)⟩
  case round =>
    clear HX3 HS0 b0 b1 b2 b3
    obtain ⟨k, K, hk, rfl, hX, hm, hrb⟩ := hrel
    have hzr := hX.out.size
    have hwr := hm.out.sz
    have b0 := (B0.out.ext hX.out).c0
    have b1 := (B1.out.ext hX.out).c0
    have b2 := (B2.out.ext hX.out).c0
    have b3 : wr.frozen? ⟨w.heap.size + 2, 0, none⟩ = false := (hX.out.cells.2 _ 0 q2).trans B3.out
    obtain ⟨C, f, hc, hR⟩ := hm.out.box
    have hfr := hm.out.fr
    have HR := Lib.hid hR
    have HKL : Hid (K.length = k) := hR.len
    clear hR
    have r0 : w.heap.size < wr.heap.size := by omega
    have r1 : w.heap.size + 1 < wr.heap.size := by omega
    have r2 : w.heap.size + 2 < wr.heap.size := by omega
    have r3 : w2.heap.size < wr.heap.size := by omega
    have HEW : Hid (Ext w wr) := HE2.out.trans hX.out
    by_cases hkn : k < n
    rotate_left
    · obtain rfl : k = n := by omega
      have HLI : Hid (Lists wr C k K) := HR.out.lists (by omega) hrb.out.bdL
      have HBX : Hid (MBox wr w2.heap.size 0 C k f) := ⟨r3, hc⟩
      cases hv : vmul K
      · have HV := Lib.hid hv
        clear hv
        go_wp2_with fail
        (with_reducible refine (l04Ok_is w2.heap.size 0 C k f K _ HV.out _ HBX.out HLI.out).mono ?_)
        rintro e w3 ⟨rfl, hx3⟩
        have HE3 : Hid (Ext w w3) := HEW.out.trans hx3
        have d2 : w3.cell? ⟨w.heap.size + 2, 0, none⟩ = some (.slice none 0 0) := hx3.cell r2 b2
        have d3 : w3.frozen? ⟨w.heap.size + 2, 0, none⟩ = false := (hx3.cells.2 _ 0 r2).trans b3
        have d4 : w.heap.size + 2 < w3.heap.size := Nat.lt_of_lt_of_le r2 hx3.size
        have HEX : ∀ v, Hid (Ext w (w3.setCell ⟨w.heap.size + 2, 0, none⟩ v)) := fun v => HE3.out.set (p := ⟨w.heap.size + 2, 0, none⟩) (by show w.heap.size ≤ w.heap.size + 2; omega) v
        clear hx3 b0 b1 b2 b3 hc hfr
        go_wp2
        exact bodyPost_ret (v := .tuple #[.agg #[.slice none 0 0], .int .i64 5]) (by simp [results, Tryz.results112, go_sem, *]) rfl ⟨none, 0, 0, 5, [], rfl, (HEX _).out, fun h => absurd h (by omega)⟩
      · have HV := Lib.hid hv
        clear hv
        go_wp2_with fail
        (with_reducible refine (l04Ok_is w2.heap.size 0 C k f K _ HV.out _ HBX.out HLI.out).mono ?_)
        rintro e w3 ⟨rfl, hx3⟩
        have HE3 : Hid (Ext w w3) := HEW.out.trans hx3
        have d2 : w3.cell? ⟨w.heap.size + 2, 0, none⟩ = some (.slice none 0 0) := hx3.cell r2 b2
        have d3 : w3.frozen? ⟨w.heap.size + 2, 0, none⟩ = false := (hx3.cells.2 _ 0 r2).trans b3
        have d4 : w.heap.size + 2 < w3.heap.size := Nat.lt_of_lt_of_le r2 hx3.size
        have d5 : w3.cell? ⟨w2.heap.size, 0, none⟩ = some (.slice C k f) := hx3.cell r3 hc
        have d6 : w2.heap.size < w3.heap.size := Nat.lt_of_lt_of_le r3 hx3.size
        have HEX : ∀ v, Hid (Ext w (w3.setCell ⟨w.heap.size + 2, 0, none⟩ v)) := fun v => HE3.out.set (p := ⟨w.heap.size + 2, 0, none⟩) (by show w.heap.size ≤ w.heap.size + 2; omega) v
        have HRX : ∀ v, Hid (LRow (w3.setCell ⟨w.heap.size + 2, 0, none⟩ v) w.heap.size (w3.setCell ⟨w.heap.size + 2, 0, none⟩ v).heap.size C k f K) := fun v => ((HR.out.ext hx3).far (p := ⟨w.heap.size + 2, 0, none⟩) (.inl (by show w.heap.size + 2 < w2.heap.size + 1; omega)) v).wide (by omega) (by have := hx3.size; simpa [World.setCell] using this)
        clear hx3 b0 b1 b2 b3 hc hfr
        go_wp2
        exact bodyPost_ret (v := .tuple #[.agg #[.slice C k f], .int .i64 0]) (by simp [results, Tryz.results112, go_sem, *]) rfl ⟨C, k, f, 0, K, rfl, (HEX _).out, fun _ => ⟨rfl, (HRX _).out, HV.out⟩⟩
    have hkni : (k : Int) < n := by omega
    obtain ⟨ba, oa, hA, hba, hca⟩ := (hI.ext HEW.out).at_ (by omega)
    obtain ⟨bb, ob, hB, hbb, hcb⟩ := (hJ.ext HEW.out).at_ (by omega)
    subst hA hB
    obtain ⟨Aa, na, ca', c1, hi1⟩ := hca k hkn
    obtain ⟨Ab, nb, cb', c2, hi2⟩ := hcb k hkn
    clear hca hcb
    have hla := hi1.len
    have hlb := hi2.len
    have h1 := HBL.out k hkn
    have h2 := HBM.out k hkn
    have hna : na ≤ 4 := by omega
    have hnb : nb ≤ 4 := by omega
    have HZB : Hid (B15 (ll L k ++ ll M k)) := h1.2.app h2.2
    clear h1 h2 hla hlb
    go_upto_region 9 with fail
    go_cut [8] from 32 to 43 (fun p8 wx => Rd8 wr p8 wx)
    case first =>
      go_region_law (first | (go_simp; go_at_call 70; (with_reducible refine (l00Own_any _ na ca' (ll L k) _ (hi1.ext (by with_reducible (repeat (first | exact Ext.refl _ | apply Ext.drewN | apply Ext.drew | apply Ext.alloc | (refine Ext.set ?_ (by first | (simp; done) | (simp; omega) | omega) _) | (refine Ext.trans ?_ (by assumption)))))) (by omega)).mono ?_); rintro e w6 ⟨A6, c6, rfl, ho6⟩; have hq6 := ho6.ext; have k6 : ∀ o, w6.cell? ⟨bb, o, none⟩ = _ := fun o => hq6.cells.1 _ o (by first | (simp; done) | (simp; omega) | omega); have k7 : ∀ o, w6.cell? ⟨w.heap.size + 1, o, none⟩ = _ := fun o => hq6.cells.1 _ o (by first | (simp; done) | (simp; omega) | omega); have k8 : Ext wr w6 := Ext.trans (by with_reducible (repeat (first | exact Ext.refl _ | apply Ext.drewN | apply Ext.drew | apply Ext.alloc | (refine Ext.set ?_ (by first | (simp; done) | (simp; omega) | omega) _) | (refine Ext.trans ?_ (by assumption))))) hq6) | (refine stepI rfl _ _ rfl rfl (ho6.trans (by with_reducible (repeat (first | exact Ext.refl _ | apply Ext.drewN | apply Ext.drew | apply Ext.alloc | (refine Ext.set ?_ (by first | (simp; done) | (simp; omega) | omega) _) | (refine Ext.trans ?_ (by assumption)))))).own (ho6.trans (by with_reducible (repeat (first | exact Ext.refl _ | apply Ext.drewN | apply Ext.drew | apply Ext.alloc | (refine Ext.set ?_ (by first | (simp; done) | (simp; omega) | omega) _) | (refine Ext.trans ?_ (by assumption)))))).ext.size rfl (hi2.ext (k8.trans (by with_reducible (repeat (first | exact Ext.refl _ | apply Ext.drewN | apply Ext.drew | apply Ext.alloc | (refine Ext.set ?_ (by first | (simp; done) | (simp; omega) | omega) _) | (refine Ext.trans ?_ (by assumption))))))) (by omega) ?_; intro v7 w7 ho7 hg7 hat7))
      all_goals
        have hg8 : World.grownBy _ w7 (Value.slice A6 na c6).ownBlock := hg7
        have hE7 : Ext wr w7 := (k8.trans (by with_reducible (repeat (first | exact Ext.refl _ | apply Ext.drewN | apply Ext.drew | apply Ext.alloc | (refine Ext.set ?_ (by first | (simp; done) | (simp; omega) | omega) _) | (refine Ext.trans ?_ (by assumption)))))).grown hg8 (fun b hb => Nat.le_trans (by first | exact Nat.le_refl _ | (simp; done)) (World.ownsRow.lt ho6.own b hb).1)
        have HO7 : OwnR 2 1 wr w7 v7 (na + nb) (ll L k ++ ll M k) := ⟨ownsRow_le ho7 (by first | exact Nat.le_refl _ | (simp; done)), hE7⟩
        obtain ⟨A9, c9, rfl⟩ := HO7.forms
        go_wp2_with fail
        go_meet
        exact ⟨A9, na + nb, c9, _, rfl, ownR_ints HO7 (by omega) HZB.out, by omega, HZB.out, hE7⟩
    case rest =>
      rename World => wx
      obtain ⟨A8, m8, c8, zs, rfl, hz8, hm8, hb8, hx8⟩ := hcut
      have HB8 := Lib.hid hb8
      have HZ8 := Lib.hid hz8
      have HEX : Hid (Ext w wx) := HEW.out.trans hx8
      have HE2X : Hid (Ext w2 wx) := hX.out.trans hx8
      have HRX : Hid (LRow wx (w2.heap.size + 1) wx.heap.size C k f K) := (HR.out.ext hx8).wide (Nat.le_refl _) hx8.size
      have hzx := hx8.size
      have e5 : wx.cell? ⟨w2.heap.size, 0, none⟩ = some (.slice C k f) := hx8.cell r3 hc
      have e6 : wx.frozen? ⟨w2.heap.size, 0, none⟩ = false := (hx8.cells.2 _ 0 r3).trans hfr
      have e7 : w2.heap.size < wx.heap.size := by omega
      clear hx8 hz8 hb8 HR b0 b1 b2 b3 hc hfr hi1 hi2 c1 c2 hba hbb hX hm HEW r0 r1 r2 r3 hzr hwr
      go_wp2
      go_region_law (first | (go_simp; go_at_call 125; (with_reducible refine (l04Sort_any A8 m8 c8 zs _ (HZ8.out.ext (by with_reducible (repeat (first | exact Ext.refl _ | apply Ext.drewN | apply Ext.drew | apply Ext.alloc | (refine Ext.set ?_ (by first | (simp; done) | (simp; omega) | omega) _) | (refine Ext.trans ?_ (by assumption)))))) hm8 HB8.out).mono ?_); rintro e w6 ⟨A6, c6, ys6, rfl, hr6, hx6, hl6, hb6⟩; have k6 : ∀ o, w6.cell? ⟨w2.heap.size, o, none⟩ = _ := fun o => hx6.cells.1 _ o (by first | (simp; done) | (simp; omega) | omega); have k7 : ∀ o, w6.frozen? ⟨w2.heap.size, o, none⟩ = _ := fun o => hx6.cells.2 _ o (by first | (simp; done) | (simp; omega) | omega); have k8 : Ext wx w6 := Ext.trans (by with_reducible (repeat (first | exact Ext.refl _ | apply Ext.drewN | apply Ext.drew | apply Ext.alloc | (refine Ext.set ?_ (by first | (simp; done) | (simp; omega) | omega) _) | (refine Ext.trans ?_ (by assumption))))) hx6; have k9 : w2.heap.size < w6.heap.size := Nat.lt_of_lt_of_le e7 k8.size; have kz := hx6.size) | (refine stepLL2 rfl _ _ rfl rfl HRX.out HE2X.out (by omega) (k8.trans (by with_reducible (repeat (first | exact Ext.refl _ | apply Ext.drewN | apply Ext.drew | apply Ext.alloc | (refine Ext.set ?_ (by first | (simp; done) | (simp; omega) | omega) _) | (refine Ext.trans ?_ (by assumption)))))) (by omega) rfl (heap_alloc_new _ _) rfl (hr6.ext (by with_reducible (repeat (first | exact Ext.refl _ | apply Ext.drewN | apply Ext.drew | apply Ext.alloc | (refine Ext.set ?_ (by first | (simp; done) | (simp; omega) | omega) _) | (refine Ext.trans ?_ (by assumption)))))) rfl (by first | exact Nat.le_refl _ | (simp; done) | (simp; omega)) (by first | (simp; done) | (simp; omega)) ?_; intro A2 c2 w7 R2 hx7 hz7 hk7; have f5 : w7.cell? ⟨w2.heap.size, 0, none⟩ = some (.slice C k f) := (hk7 _ 0 (by omega)).1.trans (by go_simp); have f6 : w7.frozen? ⟨w2.heap.size, 0, none⟩ = false := (hk7 _ 0 (by omega)).2.trans (by go_simp)))
      all_goals
        have hz8 : w2.heap.size + 1 ≤ w7.heap.size := by have := k8.size; (try simp at hz7); omega
        have HPX : Hid (MRows w (w7.setCell ⟨w2.heap.size, 0, none⟩ (.slice A2 (k + 1) c2)) w2.heap.size (w2.heap.size + 1) (K ++ [ys6]) (k + 1)) := MRows.put (by omega) (by omega) hz8 (HE2.out.trans hx7) (by omega) f6 f5 R2
        have HEY : Hid (Ext w2 (w7.setCell ⟨w2.heap.size, 0, none⟩ (.slice A2 (k + 1) c2))) := hx7.set (p := ⟨w2.heap.size, 0, none⟩) (Nat.le_refl _) _
        have HRB : Hid (RB (K ++ [ys6])) := hrb.out.push hl6 hb6
        clear R2 hk7 hx7 k6 k7 hr6 hx6 f5 f6
        go_wp2
        go_roundw
        case rel => exact ⟨k + 1, _, by omega, by go_num, HEY, HPX, HRB⟩
        case measure => simp [intOf]; omega
end Go.Proofs.YtbihbhdaenhdoaaGreat

namespace Go.Proofs.YtbihbhdaenhdoaaGreat
set_option linter.unusedVariables false
set_option linter.unusedSimpArgs false
open Go.ChangeShapes Go.WideShapes Go.ChangeAt Go.RowKit Go.Joins Go.Deep

theorem site_ints {w : World} {lo N d : Nat} {B : Option Addr} {ys : List Int} (h : w.ownsRow lo 2 1 (.slice B N d) N (ys.map (Value.int .i64))) (hN : N ≤ 5) (hv : vpat ys = true) : Ints w B N ys :=
  Ints.of_own h (by omega) (vpat_bd hv)
theorem vmul_bdL {L : List (List Int)} (h : vmul L = true) : bdL L := fun i hi => by
  have := vmul_b15 h hi
  exact ⟨by omega, this.2.wide⟩
theorem kept_src {w w' : World} {g : Nat} (k : w.grownBy w' (some g)) : Kept g (g + 1) w w' := Kept.of_grown k (fun g' hg => by cases hg; omega)
theorem grownM_frozen {w w' : World} {g b : Nat} (k : w.grownBy w' (some g)) (hb : b < w.heap.size) (hne : b ≠ g) (o : Nat) : w'.frozen? ⟨b, o, none⟩ = w.frozen? ⟨b, o, none⟩ :=
  World.frozen?_of_block (k.block b hb (fun e => hne (by cases e; rfl)))
/-- A pattern drawn so far: the box OB tells it, the block behind w is the result's. -/
structure PDm (w0 w wr : World) (g : Nat) (A : Option Addr) (n c : Nat) (xs : List Int) (top OB N : Nat) (C : Option Addr) (f : Nat) (K : List (List Int)) : Prop where
  k0 : wr.cell? ⟨OB, 0, none⟩ = some (.slice C N f)
  kf : wr.frozen? ⟨OB, 0, none⟩ = false
  P : ∃ lo hi, LRow wr lo hi C N f K ∧ w.heap.size < lo ∧ hi ≤ wr.heap.size ∧ (hi ≤ OB ∨ OB < lo)
  V : vmul K = true
  r0 : wr.cell? ⟨w.heap.size, 0, none⟩ = some (.slice none 0 0)
  rf : wr.frozen? ⟨w.heap.size, 0, none⟩ = false
  S : Srd w0 wr g A n c xs top
  G : w.grownBy wr (some g)
  gl : g < w.heap.size
  gt : w.heap.size < OB
  lt : OB < wr.heap.size
section
variable {w0 w wr wx : World} {g : Nat} {A : Option Addr} {n c : Nat} {xs : List Int} {top OB N : Nat} {C : Option Addr} {f : Nat} {K : List (List Int)}
theorem PDm.ext (h : PDm w0 w wr g A n c xs top OB N C f K) (k : Ext wr wx) : PDm w0 w wx g A n c xs top OB N C f K := by
  obtain ⟨lo, hi, p1, p2, p3, p4⟩ := h.P
  have hz := k.size
  have h1 := h.lt
  have h2 := h.gt
  exact ⟨k.cell h.lt h.k0, (k.cells.2 _ _ h.lt).trans h.kf, ⟨lo, hi, p1.ext k, p2, by omega, p4⟩, h.V, k.cell (by omega) h.r0, (k.cells.2 _ _ (by omega)).trans h.rf, h.S.after k, grown_exts h.G k, h.gl, h.gt, by omega⟩
theorem PDm.drawn (h : PDm w0 w wr g A n c xs top OB N C f K) {top' : Nat} (hs : Srd w0 wx g A n c xs top') (k : wr.grownBy wx (some g)) : PDm w0 w wx g A n c xs top' OB N C f K := by
  obtain ⟨lo, hi, p1, p2, p3, p4⟩ := h.P
  have hz := k.size
  have h0 := h.gl
  have h1 := h.lt
  have h2 := h.gt
  exact ⟨(grown_cell k h.lt (by omega) _).trans h.k0, (grownM_frozen k h.lt (by omega) _).trans h.kf, ⟨lo, hi, p1.held (kept_src k) (.inr (by omega)), p2, by omega, p4⟩, h.V, (grown_cell k (by omega) (by omega) _).trans h.r0, (grownM_frozen k (by omega) (by omega) _).trans h.rf, hs, grown_trans h.G k, h.gl, h.gt, by omega⟩
theorem PDm.more (h : PDm w0 w wr g A n c xs top OB N C f K) {top' : Nat} (k : top ≤ top') : PDm w0 w wr g A n c xs top' OB N C f K := ⟨h.k0, h.kf, h.P, h.V, h.r0, h.rf, h.S.more k, h.G, h.gl, h.gt, h.lt⟩
theorem PDm.lists (h : PDm w0 w wr g A n c xs top OB N C f K) (hN : N ≤ 5) : Lists wr C N K := by
  obtain ⟨lo, hi, p1, _⟩ := h.P
  exact p1.lists (by omega) (vmul_bdL h.V)
theorem PDm.put (h : PDm w0 w wr g A n c xs top OB N C f K) {lo hi : Nat} {C2 : Option Addr} {f2 : Nat} {K2 : List (List Int)} (p : LRow wr lo hi C2 N f2 K2) (hlo : OB < lo) (hhi : hi ≤ wr.heap.size) (hv : vmul K2 = true) :
    PDm w0 w (wr.setCell ⟨OB, 0, none⟩ (.slice C2 N f2)) g A n c xs top OB N C2 f2 K2 := by
  have h1 := h.lt
  have h2 := h.gt
  have h0 := h.gl
  exact ⟨World.cell?_setCell_same _ _ _ h.k0, by simpa using h.kf, ⟨lo, hi, p.far (p := ⟨OB, 0, none⟩) (.inl hlo) _, by omega, by simpa [World.setCell] using hhi, .inr hlo⟩, hv, (World.cell?_setCell_other _ _ _ _ (fun e => by injection e; omega)).trans h.r0, by simpa using h.rf, h.S.put (p := ⟨OB, 0, none⟩) (by show g < OB; omega) _, grown_put h.G (p := ⟨OB, 0, none⟩) (by show w.heap.size ≤ OB; omega) _, h.gl, h.gt, by simpa [World.setCell] using h.lt⟩
end
/-- What a step leaves. -/
def DStM (w0 w : World) (g : Nat) (A : Option Addr) (n c : Nat) (xs : List Int) (top OB N : Nat) (C : Option Addr) (f : Nat) (K : List (List Int)) (p7 c8 : Value) (wx : World) : Prop :=
  ∃ (NB : Nat) (r : Int) (C2 : Option Addr) (q2 f2 : Nat), p7 = .pointer (some ⟨NB, 0, none⟩) ∧ c8 = .int .i64 r ∧ PDm w0 w wx g A n c xs top OB N C f K ∧ wx.cell? ⟨NB, 0, none⟩ = some (.slice C2 q2 f2) ∧ NB < wx.heap.size ∧ (r = 0 → q2 = N ∧ ∃ lo hi K2, LRow wx lo hi C2 q2 f2 K2 ∧ OB < lo ∧ hi ≤ wx.heap.size ∧ vmul K2 = true)
/-- A drawn pattern. -/
def DrawnM (w0 w : World) (g : Nat) (A : Option Addr) (n c : Nat) (xs : List Int) (top : Nat) (e : Ending) (w' : World) : Prop :=
  ∃ (C : Option Addr) (N f : Nat) (K : List (List Int)), e = .returned (.agg #[.slice C N f]) ∧ (1 ≤ N ∧ N ≤ 5) ∧ LRow w' w.heap.size w'.heap.size C N f K ∧ vmul K = true ∧ Srd w0 w' g A n c xs top ∧ w.grownBy w' (some g)
set_option maxHeartbeats 8000000 in
set_option maxRecDepth 100000 in
theorem l04Draw_any (N : Nat) (hNb : 1 ≤ N ∧ N ≤ 5) (w0 w : World) (g : Nat) (A : Option Addr) (n c : Nat) (xs : List Int) (top : Nat) (h : Srd w0 w g A n c xs top) (ht : top ≤ 500000000) :
    Calls Tryz.prog 82 #[.pointer (some ⟨g, 0, none⟩), .int .i64 N] w (DrawnM w0 w g A n c xs (top + 400)) := by
  have hlt := h.lt
  have hS0 := h.after ((Ext.refl w).alloc (.cells #[.slice none 0 0] 27))
  have hG0 := grown_new (World.grownBy.refl w (some g)) (.cells #[.slice none 0 0] 27)
  go_enter Tryz.func82, Tryz.ntmps82
  go_wp2_with fail
  (with_reducible refine (l04Site_any N hNb w0 _ g A n c xs top hS0 (by omega)).mono ?_)
  rintro e w1 ⟨B, d, ys, rfl, hown1, hvy, hs1, hg1⟩
  have hz1 : w.heap.size + 1 ≤ w1.heap.size := by have := hg1.size; simp at this; omega
  have a0 : w1.cell? ⟨w.heap.size, 0, none⟩ = some (.slice none 0 0) := (grown_cell hg1 (by simp) (by omega) _).trans (by go_simp)
  have a1 : w1.frozen? ⟨w.heap.size, 0, none⟩ = false := (grownM_frozen hg1 (by simp) (by omega) _).trans (by go_simp)
  have hG1 := grown_trans hG0 hg1
  have hI1 := site_ints hown1 hNb.2 hvy
  clear hg1 hS0 hG0 hown1
  go_wp2_with fail
  (with_reducible refine (l04Single_any B N d ys _ hI1 (by omega)).mono ?_)
  rintro e w2 ⟨C, f, rfl, hr2, hx2⟩
  have hz2 := hx2.size
  have H0 : Hid (PDm w0 w (w2.alloc (.cells #[.slice C N f] 27)) g A n c xs (top + 60) w2.heap.size N C f (wrp ys)) := by
    have hxa : Ext w2 (w2.alloc (.cells #[.slice C N f] 27)) := (Ext.refl _).alloc _
    have hx := hx2.trans hxa
    exact ⟨by go_simp, by go_simp, ⟨w1.heap.size, w2.heap.size, hr2.ext hxa, by omega, hxa.size, .inl (Nat.le_refl _)⟩, vmul_wrp hvy, hx.cell (by omega) a0, (hx.cells.2 _ _ (by omega)).trans a1, hs1.after hx, grown_exts hG1 hx, hlt, by omega, by simp⟩
  clear hI1 hs1 hG1 a0 a1 hr2 hvy hx2
  go_wp2_with fail
  (with_reducible refine (pick_any 4 w0 _ g A n c xs _ H0.out.S (by omega)).mono ?_)
  rintro e w5 ⟨x5, rfl, hx5, hs5, hg5⟩
  obtain ⟨j0, rfl⟩ : ∃ q : Nat, x5 = q := ⟨x5.toNat, by omega⟩
  have H1 := Lib.hid (H0.out.drawn hs5 hg5)
  clear hs5 hg5 H0
  go_wp2
  go_loopw [6, 7, 8] (fun i _ _ wr => ∃ (j : Nat) (C : Option Addr) (f : Nat) (K : List (List Int)), j ≤ 3 ∧ i = .int .i64 j ∧ Hid (PDm w0 w wr g A n c xs (top + 62 + 60 * (3 - j)) w2.heap.size N C f K)) (fun i _ _ _ => (intOf i).toNat)
  case atStart => exact ⟨j0, _, _, _, by omega, rfl, H1.out.more (by omega)⟩
  case round =>
    obtain ⟨j, C, f, K, hj, rfl, H⟩ := hrel
    clear H1
    have o0 := H.out.k0
    have olt := H.out.lt
    have ogt := H.out.gt
    have ogl := H.out.gl
    by_cases hj0 : 0 < j
    · have hji : (0 : Int) < j := by omega
      go_upto_region 5 with fail
      go_cut [7, 8] from 19 to 27 (fun p7 c8 wx => DStM w0 w g A n c xs (top + 62 + 60 * (3 - j) + 60) w2.heap.size N C f K p7 c8 wx)
      case first =>
        go_region_law (first | (go_simp; go_at_call 111; (with_reducible refine (l04Site_any N hNb w0 _ g A n c xs _ ((H.out.ext (by with_reducible (repeat (first | exact Ext.refl _ | apply Ext.drewN | apply Ext.drew | apply Ext.alloc | (refine Ext.set ?_ (by first | (simp; done) | (simp; omega) | omega) _) | (refine Ext.trans ?_ (by assumption)))))).S) (by omega)).mono ?_); rintro e w6 ⟨B6, d6, ys6, rfl, ho6, hv6, hs6, hg6⟩; have hgw := grown_trans (grown_exts (World.grownBy.refl wr (some g)) (by with_reducible (repeat (first | exact Ext.refl _ | apply Ext.drewN | apply Ext.drew | apply Ext.alloc | (refine Ext.set ?_ (by first | (simp; done) | (simp; omega) | omega) _) | (refine Ext.trans ?_ (by assumption)))))) hg6; have H6 := Lib.hid (H.out.drawn hs6 hgw); have hI6 := site_ints ho6 hNb.2 hv6; have p0 := H6.out.k0; have p2 := H6.out.lt; have hzz6 := hg6.size; (try have kz0 : w6.cell? ⟨wr.heap.size, 0, none⟩ = some (.slice none 0 0) := (grown_cell hg6 (by first | (simp; done) | (simp; omega) | omega) (by omega) _).trans (by go_simp; done)); (try have kz1 : w6.frozen? ⟨wr.heap.size, 0, none⟩ = false := (grownM_frozen hg6 (by first | (simp; done) | (simp; omega) | omega) (by omega) _).trans (by go_simp; done)); (try have kz2 : wr.heap.size < w6.heap.size := Nat.lt_of_lt_of_le (by first | (simp; done) | (simp; omega) | omega) hg6.size)) | (go_simp; go_at_call 76; (with_reducible refine (l04Single_any B6 N d6 ys6 _ (hI6.ext (by with_reducible (repeat (first | exact Ext.refl _ | apply Ext.drewN | apply Ext.drew | apply Ext.alloc | (refine Ext.set ?_ (by first | (simp; done) | (simp; omega) | omega) _) | (refine Ext.trans ?_ (by assumption)))))) (by omega)).mono ?_); rintro e w7 ⟨C7, c7, rfl, hr7, hx7⟩; have hE7 : Ext w6 w7 := Ext.trans (by with_reducible (repeat (first | exact Ext.refl _ | apply Ext.drewN | apply Ext.drew | apply Ext.alloc | (refine Ext.set ?_ (by first | (simp; done) | (simp; omega) | omega) _) | (refine Ext.trans ?_ (by assumption))))) hx7; have H7 := Lib.hid (H6.out.ext hE7); have r0 := H7.out.k0; have r2 := H7.out.lt; have hL7 := hr7.lists (by omega) (vmul_bdL (vmul_wrp hv6)); have hzz7 := hx7.size; (try have ky0 := hE7.cell kz2 kz0); (try have ky1 := (hE7.cells.2 _ 0 kz2).trans kz1); (try have ky2 := Nat.lt_of_lt_of_le kz2 hE7.size); (try have kx0 : w7.cell? ⟨w6.heap.size, 0, none⟩ = some (.slice none 0 0) := hx7.cell (by first | (simp; done) | (simp; omega) | omega) (by go_simp; done)); (try have kx1 : w7.frozen? ⟨w6.heap.size, 0, none⟩ = false := (hx7.cells.2 _ 0 (by first | (simp; done) | (simp; omega) | omega)).trans (by go_simp; done)); (try have kx2 : w6.heap.size < w7.heap.size := Nat.lt_of_lt_of_le (by first | (simp; done) | (simp; omega) | omega) hx7.size)) | (go_simp; go_at_call 112; (with_reducible refine (AddMulti_any C C7 N f c7 K (wrp ys6) _ ((H7.out.ext (by with_reducible (repeat (first | exact Ext.refl _ | apply Ext.drewN | apply Ext.drew | apply Ext.alloc | (refine Ext.set ?_ (by first | (simp; done) | (simp; omega) | omega) _) | (refine Ext.trans ?_ (by assumption)))))).lists hNb.2) (hL7.ext (by with_reducible (repeat (first | exact Ext.refl _ | apply Ext.drewN | apply Ext.drew | apply Ext.alloc | (refine Ext.set ?_ (by first | (simp; done) | (simp; omega) | omega) _) | (refine Ext.trans ?_ (by assumption)))))) H.out.V (vmul_wrp hv6)).mono ?_); rintro e w8 ⟨C8, q8, f8, r8, K8, rfl, hx8, hres⟩; have hE8 : Ext w7 w8 := Ext.trans (by with_reducible (repeat (first | exact Ext.refl _ | apply Ext.drewN | apply Ext.drew | apply Ext.alloc | (refine Ext.set ?_ (by first | (simp; done) | (simp; omega) | omega) _) | (refine Ext.trans ?_ (by assumption))))) hx8; have H8 := Lib.hid (H7.out.ext hE8); have hzz8 := hx8.size; (try have kw0 := hE8.cell ky2 ky0); (try have kw1 := (hE8.cells.2 _ 0 ky2).trans ky1); (try have kw2 := Nat.lt_of_lt_of_le ky2 hE8.size); (try have kv0 := hE8.cell kx2 kx0); (try have kv1 := (hE8.cells.2 _ 0 kx2).trans kx1); (try have kv2 := Nat.lt_of_lt_of_le kx2 hE8.size); (try have ku0 : w8.cell? ⟨w7.heap.size, 0, none⟩ = some (.slice none 0 0) := hx8.cell (by first | (simp; done) | (simp; omega) | omega) (by go_simp; done)); (try have ku1 : w8.frozen? ⟨w7.heap.size, 0, none⟩ = false := (hx8.cells.2 _ 0 (by first | (simp; done) | (simp; omega) | omega)).trans (by go_simp; done)); (try have ku2 : w7.heap.size < w8.heap.size := Nat.lt_of_lt_of_le (by first | (simp; done) | (simp; omega) | omega) hx8.size)))
        all_goals
          have hzw := hgw.size
          have hg8 := grown_exts (grown_exts hgw hE7) hE8
          have hs8 := (hs6.after hE7).after hE8
          have hz7' := hE7.size
          have hz8' := hE8.size
          go_wp2_with fail
          go_meet
          refine ⟨_, r8, C8, q8, f8, rfl, rfl, H.out.drawn ?_ ?_, ?_, ?_, fun hr => ?_⟩
          · first | exact hs8.put (by first | (show g < wr.heap.size; omega) | (show g < w6.heap.size; omega) | (show g < w7.heap.size; omega)) _ | exact hs8.after (by with_reducible (repeat (first | exact Ext.refl _ | apply Ext.drewN | apply Ext.drew | apply Ext.alloc | (refine Ext.set ?_ (by first | (simp; done) | (simp; omega) | omega) _) | (refine Ext.trans ?_ (by assumption)))))
          · first | exact grown_put hg8 (by first | (show wr.heap.size ≤ wr.heap.size; omega) | (show wr.heap.size ≤ w6.heap.size; omega) | (show wr.heap.size ≤ w7.heap.size; omega)) _ | exact grown_exts hg8 (by with_reducible (repeat (first | exact Ext.refl _ | apply Ext.drewN | apply Ext.drew | apply Ext.alloc | (refine Ext.set ?_ (by first | (simp; done) | (simp; omega) | omega) _) | (refine Ext.trans ?_ (by assumption)))))
          · go_simp
          · exact (by first | (simp [World.setCell]; done) | (simp [World.setCell]; omega) | omega)
          · obtain ⟨q1, q2, q3⟩ := hres hr
            first
              | exact ⟨q1, _, _, K8, q2.far (.inl (by first | (simp; done) | (simp; omega) | omega)) _, (by first | (simp; done) | (simp; omega) | omega), (by first | (simp [World.setCell]; done) | (simp [World.setCell]; omega) | omega), q3⟩
              | exact ⟨q1, _, _, K8, q2.ext (by with_reducible (repeat (first | exact Ext.refl _ | apply Ext.drewN | apply Ext.drew | apply Ext.alloc | (refine Ext.set ?_ (by first | (simp; done) | (simp; omega) | omega) _) | (refine Ext.trans ?_ (by assumption))))), (by first | (simp; done) | (simp; omega) | omega), (by first | (simp [World.setCell]; done) | (simp [World.setCell]; omega) | omega), q3⟩
      case rest =>
        obtain ⟨NB, r, C2, q2, f2, rfl, rfl, H2, e0, e1, hr⟩ := hcut
        clear o0 olt H
        have H := Lib.hid H2
        have HR := Lib.hid hr
        have o0 := H.out.k0
        have of0 := H.out.kf
        have olt := H.out.lt
        clear H2 hr
        by_cases hr0 : r = 0
        · obtain ⟨hA, lo, hi, K2, hP, hlo, hhi, hv2⟩ := HR.out hr0
          subst hr0
          obtain rfl := hA
          have HN := Lib.hid (H.out.put hP hlo hhi hv2)
          clear hP hv2
          go_wp2
          go_roundw
          case rel => exact ⟨j - 1, _, _, _, by omega, by rw [show ((j - 1 : Nat) : Int) = (j : Int) - 1 by omega], HN.out.more (by omega)⟩
          case measure => simp [intOf]; omega
        · have hrb : (r == 0) = false := beq_eq_false_iff_ne.2 hr0
          clear hr0
          go_wp2
          go_roundw
          case rel => exact ⟨j - 1, _, _, _, by omega, by rw [show ((j - 1 : Nat) : Int) = (j : Int) - 1 by omega], H.out.more (by omega)⟩
          case measure => simp [intOf]; omega
    · have hji : ¬ (0 : Int) < j := by omega
      have r0 := H.out.r0
      have rf := H.out.rf
      have rl : w.heap.size < wr.heap.size := by omega
      have HT : Hid (∀ u : Value, DrawnM w0 w g A n c xs (top + 400) (.returned (.agg #[.slice C N f])) (wr.setCell ⟨w.heap.size, 0, none⟩ u)) := fun u => by
        obtain ⟨lo, hi, p1, p2, p3, p4⟩ := H.out.P
        exact ⟨C, N, f, K, rfl, hNb, (p1.far (p := ⟨w.heap.size, 0, none⟩) (.inl p2) u).wide (by omega) (by simpa [World.setCell] using p3), H.out.V, (H.out.S.put (p := ⟨w.heap.size, 0, none⟩) (by show g < w.heap.size; omega) _).more (by omega), grown_put H.out.G (p := ⟨w.heap.size, 0, none⟩) (by show w.heap.size ≤ w.heap.size; omega) _⟩
      go_wp2
      exact bodyPost_ret (v := .agg #[.slice C N f]) (by simp [results, Tryz.results82, go_sem, *]) rfl (HT.out _)
end Go.Proofs.YtbihbhdaenhdoaaGreat
