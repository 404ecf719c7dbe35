/- Pup Pui in one text (a claim has at most 60 files). No condition but the stated bounds. -/
import Derived.Test.YtbihbhdaenhdoaaGreatTog
import Derived.Test.YtbihbhdaenhdoaaGreatSok
import Derived.Test.YtbihbhdaenhdoaaGreatCnx
import Derived.Deep.RegionLawGrows
namespace Go.Proofs.YtbihbhdaenhdoaaGreat
set_option linter.unusedVariables false
set_option linter.unusedSimpArgs false
open Go.ChangeShapes Go.WideShapes Go.ChangeAt Go.RowKit Go.Joins Go.Deep

/-- A pattern with an even number of throws. -/
def qs (xs : List Int) : List Int := if xs.length % 2 = 1 then xs ++ xs else xs
/-- The throw for the throw v of a pattern at the index k. -/
def bkv (v : Int) (k : Nat) : Int := if v % 2 = 1 then (if k % 2 = 1 then v + 1 else v - 1) else v
def bkp (v : Int) : Bool := decide (v % 2 = 1)
/-- The first k of them. -/
def tbk (ys : List Int) (k : Nat) : List (Int × Bool) := (List.range k).map (fun i => (bkv (ys[i]?.getD 0) i, bkp (ys[i]?.getD 0)))
theorem tbk_len (ys : List Int) (k : Nat) : (tbk ys k).length = k := by simp [tbk]
theorem tbk_succ (ys : List Int) (k : Nat) : tbk ys (k + 1) = tbk ys k ++ [(bkv (ys[k]?.getD 0) k, bkp (ys[k]?.getD 0))] := by simp [tbk, List.range_succ]
theorem tbk_get {ys : List Int} {k i : Nat} (h : i < k) : tv (tbk ys k) i = bkv (ys[i]?.getD 0) i ∧ tp (tbk ys k) i = bkp (ys[i]?.getD 0) := by simp [tv, tp, tbk, h]
/-- The first k of them are throws of a synchronous pattern. -/
def BkK (ys : List Int) (k : Nat) : Prop := ∀ i, i < k → sok (bkv (ys[i]?.getD 0) i) (bkp (ys[i]?.getD 0)) = true
instance (ys : List Int) (k : Nat) : Decidable (BkK ys k) := by unfold BkK; infer_instance
theorem BkK.zero (ys : List Int) : BkK ys 0 := fun i h => absurd h (by omega)
theorem BkK.succ {ys : List Int} {k : Nat} (h : BkK ys k) (hk : sok (bkv (ys[k]?.getD 0) k) (bkp (ys[k]?.getD 0)) = true) : BkK ys (k + 1) := fun i hi => by
  by_cases e : i = k
  · rw [e]; exact hk
  · exact h i (by omega)
/-- What PairUp gives for a valid pattern: throws and a code. -/
def pup (xs : List Int) : List (Int × Bool) × Int := if 12 < (qs xs).length then ([], 5) else if BkK (qs xs) (qs xs).length then (tbk (qs xs) (qs xs).length, 0) else ([], 10)
theorem qs_even (xs : List Int) : (qs xs).length % 2 = 0 := by
  unfold qs
  split
  · rw [List.length_append]; omega
  · omega
theorem flT_push {ys : List Int} {k : Nat} : flT (tbk ys (k + 1)) = flT (tbk ys k) ++ [.int .i64 (bkv (ys[k]?.getD 0) k), .bool (bkp (ys[k]?.getD 0))] := by rw [tbk_succ, flT_snoc]
theorem flT_push2 {ys : List Int} {k : Nat} : flT (tbk ys (k + 2)) = flT (tbk ys k) ++ [.int .i64 (bkv (ys[k]?.getD 0) k), .bool (bkp (ys[k]?.getD 0)), .int .i64 (bkv (ys[k + 1]?.getD 0) (k + 1)), .bool (bkp (ys[k + 1]?.getD 0))] := by
  rw [flT_push, flT_push, List.append_assoc]
  rfl
theorem RowS.of_flT {w w' : World} {A : Option Addr} {n c : Nat} {ts : List (Int × Bool)} (h : OwnG 102 4 w w' (.slice A n c) n (flT ts)) (hl : ts.length = 2 * n) : RowS w' w.heap.size w'.heap.size A n c ts :=
  ⟨hl, _, h.row, fun i hi => by
    obtain ⟨a, b⟩ := flT_get ts (2 * i) (by omega)
    obtain ⟨c, d⟩ := flT_get ts (2 * i + 1) (by omega)
    rw [show 2 * i * 2 = i * 4 by omega] at a b
    rw [show (2 * i + 1) * 2 = i * 4 + 2 by omega] at c d
    exact ⟨a, b, c, d⟩⟩
/-- What hands back beats, and a code. -/
def RetPu (w : World) (r : List (Int × Bool) × Int) (e : Ending) (w' : World) : Prop := ∃ A n c, e = .returned (.tuple #[.slice A n c, .int .i64 r.2]) ∧ RowS w' w.heap.size w'.heap.size A n c r.1 ∧ Ext w w'
theorem RetPu.bare {w w' : World} (h : Ext w w') (r : Int) : RetPu w ([], r) (.returned (.tuple #[.slice none 0 0, .int .i64 r])) w' := ⟨none, 0, 0, rfl, RowS.nil _ _ _, h⟩
theorem infoSth : (Tryz.prog.info? 99).map (fun i => (i.zero, i.size, i.bytes)) = some (some (.agg #[.int .i64 0, .bool false]), 2, 16) := by kernel_rfl
theorem elSth : ElG Tryz.prog 99 2 16 := elG infoSth rfl
theorem infoSyb : (Tryz.prog.info? 102).map (fun i => (i.zero, i.size, i.bytes)) = some (some (.agg #[.int .i64 0, .bool false, .int .i64 0, .bool false]), 4, 32) := by kernel_rfl
theorem elSyb : ElG Tryz.prog 102 4 32 := elG infoSyb rfl
theorem heap_two2p (w : World) (o o' : Obj) : ((w.alloc o).alloc o').heap[w.heap.size + 1]? = some o' := by
  have := heap_alloc_new (w.alloc o) o'
  simpa using this
set_option maxHeartbeats 2000000 in
theorem l05Back_any (v : Int) (k : Nat) (w : World) (hv : 0 ≤ v ∧ v ≤ 15) (hk : k ≤ 1) :
    Calls Tryz.prog 108 #[.int .i64 v, .int .i64 (k : Int)] w fun e w' => e = .returned (.tuple #[.agg #[.int .i64 (bkv v k), .bool (bkp v)], .bool (sok (bkv v k) (bkp v))]) ∧ Ext w w' := by
  obtain ⟨u, rfl⟩ : ∃ u : Nat, v = u := ⟨v.toNat, by omega⟩
  obtain ⟨x, hx⟩ : ∃ x, u % 2 = x := ⟨_, rfl⟩
  have hx2 : Int.tmod (u : Int) 2 = x := by rw [← hx]; rfl
  have hxb : x = 0 ∨ x = 1 := by omega
  obtain ⟨z, hz⟩ : ∃ z, bkv u k = z := ⟨_, rfl⟩
  obtain ⟨p, hp⟩ : ∃ p, bkp u = p := ⟨_, rfl⟩
  obtain ⟨b, hb⟩ : ∃ b, sok z p = b := ⟨_, rfl⟩
  have HZ := Lib.hid hz
  have HP := Lib.hid hp
  have HX := Lib.hid hx
  rw [hz, hp, hb]
  clear hz hp hx
  rcases hxb with rfl | rfl
  · obtain rfl : z = u := by have := HZ.out; have := HX.out; unfold bkv at *; rw [if_neg (by omega)] at *; omega
    obtain rfl : p = false := by have := HP.out; have := HX.out; unfold bkp at *; rw [← HP.out]; exact decide_eq_false (by omega)
    clear HZ HP
    go_enter Tryz.func108, Tryz.ntmps108
    go_wp2
    go_region_held3 (fun wz => wz.cell? ⟨w.heap.size + 1, 0, none⟩ = some (.int .i64 u) ∧ wz.cell? ⟨w.heap.size + 1, 1, none⟩ = some (.bool false)) (go_keep) ((go_at_call 121; (with_reducible refine (l05Throw_is u false b hb _).mono ?_); rintro e w1 ⟨rfl, hx1⟩; have hz1 := hx1.size; (try simp at hz1); have n0 : w.heap.size < w1.heap.size := (by omega); have n1 : w.heap.size + 1 < w1.heap.size := (by omega); have c0 : ∀ o, w1.cell? ⟨w.heap.size, o, none⟩ = _ := fun o => hx1.cells.1 _ o (by first | (simp; done) | (simp; omega) | omega); have f0 : ∀ o, w1.frozen? ⟨w.heap.size, o, none⟩ = _ := fun o => hx1.cells.2 _ o (by first | (simp; done) | (simp; omega) | omega); have c1 : ∀ o, w1.cell? ⟨w.heap.size + 1, o, none⟩ = _ := fun o => hx1.cells.1 _ o (by first | (simp; done) | (simp; omega) | omega); have f1 : ∀ o, w1.frozen? ⟨w.heap.size + 1, o, none⟩ = _ := fun o => hx1.cells.2 _ o (by first | (simp; done) | (simp; omega) | omega)))
    go_wp2
    exact bodyPost_ret (v := .tuple #[.agg #[.int .i64 u, .bool false], .bool b]) (by simp [results, Tryz.results108, go_sem, *]) rfl ⟨rfl, (by with_reducible (repeat (first | exact Ext.refl _ | apply Ext.drewN | apply Ext.drew | apply Ext.alloc | (refine Ext.set ?_ (by first | (simp; done) | (simp; omega) | omega) _) | (refine Ext.trans ?_ (by assumption)))))⟩
  · obtain rfl : p = true := by have := HP.out; have := HX.out; unfold bkp at *; rw [← HP.out]; exact decide_eq_true (by omega)
    rcases (show k = 0 ∨ k = 1 by omega) with rfl | rfl
    · have e : z = (u : Int) - 1 := by have := HZ.out; have := HX.out; unfold bkv at *; rw [if_pos (by omega), if_neg (by omega)] at *; omega
      subst e
      clear HZ HP
      go_enter Tryz.func108, Tryz.ntmps108
      go_wp2
      go_region_held3 (fun wz => wz.cell? ⟨w.heap.size + 1, 0, none⟩ = some (.int .i64 ((u : Int) - 1)) ∧ wz.cell? ⟨w.heap.size + 1, 1, none⟩ = some (.bool true)) (go_keep) ((go_at_call 121; (with_reducible refine (l05Throw_is ((u : Int) - 1) true b hb _).mono ?_); rintro e w1 ⟨rfl, hx1⟩; have hz1 := hx1.size; (try simp at hz1); have n0 : w.heap.size < w1.heap.size := (by omega); have n1 : w.heap.size + 1 < w1.heap.size := (by omega); have c0 : ∀ o, w1.cell? ⟨w.heap.size, o, none⟩ = _ := fun o => hx1.cells.1 _ o (by first | (simp; done) | (simp; omega) | omega); have f0 : ∀ o, w1.frozen? ⟨w.heap.size, o, none⟩ = _ := fun o => hx1.cells.2 _ o (by first | (simp; done) | (simp; omega) | omega); have c1 : ∀ o, w1.cell? ⟨w.heap.size + 1, o, none⟩ = _ := fun o => hx1.cells.1 _ o (by first | (simp; done) | (simp; omega) | omega); have f1 : ∀ o, w1.frozen? ⟨w.heap.size + 1, o, none⟩ = _ := fun o => hx1.cells.2 _ o (by first | (simp; done) | (simp; omega) | omega)))
      go_wp2
      exact bodyPost_ret (v := .tuple #[.agg #[.int .i64 ((u : Int) - 1), .bool true], .bool b]) (by simp [results, Tryz.results108, go_sem, *]) rfl ⟨rfl, (by with_reducible (repeat (first | exact Ext.refl _ | apply Ext.drewN | apply Ext.drew | apply Ext.alloc | (refine Ext.set ?_ (by first | (simp; done) | (simp; omega) | omega) _) | (refine Ext.trans ?_ (by assumption)))))⟩
    · have e : z = (u : Int) + 1 := by have := HZ.out; have := HX.out; unfold bkv at *; rw [if_pos (by omega), if_pos (by omega)] at *; omega
      subst e
      clear HZ HP
      go_enter Tryz.func108, Tryz.ntmps108
      go_wp2
      go_region_held3 (fun wz => wz.cell? ⟨w.heap.size + 1, 0, none⟩ = some (.int .i64 ((u : Int) + 1)) ∧ wz.cell? ⟨w.heap.size + 1, 1, none⟩ = some (.bool true)) (go_keep) ((go_at_call 121; (with_reducible refine (l05Throw_is ((u : Int) + 1) true b hb _).mono ?_); rintro e w1 ⟨rfl, hx1⟩; have hz1 := hx1.size; (try simp at hz1); have n0 : w.heap.size < w1.heap.size := (by omega); have n1 : w.heap.size + 1 < w1.heap.size := (by omega); have c0 : ∀ o, w1.cell? ⟨w.heap.size, o, none⟩ = _ := fun o => hx1.cells.1 _ o (by first | (simp; done) | (simp; omega) | omega); have f0 : ∀ o, w1.frozen? ⟨w.heap.size, o, none⟩ = _ := fun o => hx1.cells.2 _ o (by first | (simp; done) | (simp; omega) | omega); have c1 : ∀ o, w1.cell? ⟨w.heap.size + 1, o, none⟩ = _ := fun o => hx1.cells.1 _ o (by first | (simp; done) | (simp; omega) | omega); have f1 : ∀ o, w1.frozen? ⟨w.heap.size + 1, o, none⟩ = _ := fun o => hx1.cells.2 _ o (by first | (simp; done) | (simp; omega) | omega)))
      go_wp2
      exact bodyPost_ret (v := .tuple #[.agg #[.int .i64 ((u : Int) + 1), .bool true], .bool b]) (by simp [results, Tryz.results108, go_sem, *]) rfl ⟨rfl, (by with_reducible (repeat (first | exact Ext.refl _ | apply Ext.drewN | apply Ext.drew | apply Ext.alloc | (refine Ext.set ?_ (by first | (simp; done) | (simp; omega) | omega) _) | (refine Ext.trans ?_ (by assumption)))))⟩
theorem l05Back_is (v : Int) (k : Nat) (kk : Int) (hkk : kk = k) (z : Int) (p b : Bool) (hz : bkv v k = z) (hp : bkp v = p) (hb : sok z p = b) (w : World) (hv : 0 ≤ v ∧ v ≤ 15) (hk : k ≤ 1) :
    Calls Tryz.prog 108 #[.int .i64 v, .int .i64 kk] w fun e w' => e = .returned (.tuple #[.agg #[.int .i64 z, .bool p], .bool b]) ∧ Ext w w' := by
  subst hkk hz hp hb
  exact l05Back_any v k w hv hk
set_option maxHeartbeats 8000000 in
theorem specPairUp_any (A : Option Addr) (n c : Nat) (xs : List Int) (w : World) (hI : Ints w A n xs) (hV : vpat xs = true) :
    Calls Tryz.prog 77 #[.slice A n c] w (RetPu w (pup xs)) := by
  have hthr := thr_iff.1 (by have := hV; unfold vpat at this; rw [Bool.and_eq_true] at this; exact this.1)
  rw [hI.len] at hthr
  obtain ⟨hbd, n1, n12⟩ := hthr
  have HL := Lib.hid hI.len
  obtain ⟨r, hr⟩ : ∃ r, pup xs = r := ⟨_, rfl⟩
  obtain ⟨ys, hys⟩ : ∃ ys, qs xs = ys := ⟨_, rfl⟩
  obtain ⟨m, hm⟩ : ∃ m, ys.length = m := ⟨_, rfl⟩
  have hme : m % 2 = 0 := by rw [← hm, ← hys]; exact qs_even xs
  have HYB : Hid (∀ i, i < m → 0 ≤ ys[i]?.getD 0 ∧ ys[i]?.getD 0 ≤ 15) := fun i hi => by
    rw [← hys]
    unfold qs
    split
    · by_cases h : i < n
      · rw [List.getElem?_append_left (by rw [HL.out]; exact h)]; exact hbd i h
      · have : ys.length = n + n := by rw [← hys]; unfold qs; rw [if_pos (by assumption), List.length_append, HL.out]
        rw [List.getElem?_append_right (by rw [HL.out]; omega), HL.out]; exact hbd _ (by omega)
    · have : ys.length = n := by rw [← hys]; unfold qs; rw [if_neg (by assumption), HL.out]
      exact hbd i (by omega)
  have HYI : Hid (∀ y ∈ ys, -9223372036854775808 ≤ y ∧ y ≤ 9223372036854775807) := fun y hy => by
    obtain ⟨i, hi, e⟩ := List.getElem_of_mem hy
    have := HYB.out i (by omega)
    rw [List.getElem?_eq_getElem hi] at this
    simp [e] at this
    omega
  have HF5 : Hid (12 < m → r = ([], 5)) := fun h => by rw [← hr]; unfold pup; rw [hys, hm, if_pos h]
  have HF0 : Hid (¬ 12 < m → BkK ys m → r = (tbk ys m, 0)) := fun h h2 => by rw [← hr]; unfold pup; rw [hys, hm, if_neg h, if_pos h2]
  have HFN : Hid (¬ 12 < m → ¬ BkK ys m → r = ([], 10)) := fun h h2 => by rw [← hr]; unfold pup; rw [hys, hm, if_neg h, if_neg h2]
  have HQ := Lib.hid hys
  have HM := Lib.hid hm
  clear hys hbd
  rw [hr]
  clear hr
  have HM24 : Hid (m ≤ 24) := by
    show m ≤ 24
    rw [← hm, ← HQ.out]; unfold qs; split <;> (try rw [List.length_append]) <;> rw [HL.out] <;> omega
  clear hm
  obtain ⟨x, hx0⟩ : ∃ x, n % 2 = x := ⟨_, rfl⟩
  have hx1 : Int.tmod (n : Int) 2 = x := by rw [← hx0]; rfl
  have hxb : x = 0 ∨ x = 1 := by omega
  rcases hxb with rfl | rfl
  · obtain rfl : ys = xs := by rw [← HQ.out]; unfold qs; rw [if_neg (by rw [HL.out]; omega)]
    obtain rfl : n = m := by rw [← HM.out]; exact HL.out.symm
    go_enter Tryz.func77, Tryz.ntmps77
    go_wp2_with fail
    (with_reducible refine (l02Ok_is A n c ys _ hV _ hI).mono ?_)
    rintro e w1 ⟨rfl, nq, rfl⟩
    have hE1 : Ext w (w.drewN nq) := (Ext.refl w).drewN nq
    go_wp2_with fail
    (with_reducible refine (l00Own_any A n c ys _ (hI.ext hE1) (by omega)).mono ?_)
    rintro e w3 ⟨B, d, rfl, hown⟩
    have hE := hE1.trans hown.ext
    have hY : Ints w3 B n ys := Ints.of_own hown.own (by omega) HYI.out
    clear hown hV hI hE1
    by_cases h12 : 12 < n
    · have h12i : (12 : Int) < n := by omega
      have HT : Hid (∀ W, Ext w W → RetPu w r (.returned (.tuple #[.slice none 0 0, .int .i64 5])) W) := fun W hW => by rw [HF5.out h12]; exact RetPu.bare hW 5
      go_wp2
      go_ret2
      exact HT.out _ hE
    · have h12i : ¬ (12 : Int) < n := by omega
      have HF0' := Lib.hid (HF0.out h12)
      have HFN' := Lib.hid (HFN.out h12)
      clear HF0 HFN HF5
      go_wp2
      have HE0 : Hid (OwnG 102 4 w3 (w3.alloc (.cells #[] 102)) (.slice (some ⟨w3.heap.size, 0, none⟩) 0 0) 0 (flT (tbk ys 0))) := ownG_empty (Ext.refl _) _ _
      go_loopw [5, 6] (fun v i wr => ∃ k q : Nat, k ≤ n ∧ k = 2 * q ∧ i = .int .i64 k ∧ BkK ys k ∧ OwnG 102 4 w3 wr v q (flT (tbk ys k))) (fun _ i _ => n - (intOf i).toNat)
      case atStart => exact ⟨0, 0, Nat.zero_le _, rfl, rfl, BkK.zero ys, HE0.out⟩
      case round =>
        clear HE0
        obtain ⟨k, q, hk, hkq, rfl, hst, hown⟩ := hrel
        have hx3 := hown.ext
        have HKQ := Lib.hid hkq
        have hke : k % 2 = 0 := by omega
        have hqb : q ≤ 1000000 := by omega
        clear hkq
        have HST := Lib.hid hst
        clear hst
        by_cases hlt : k < n
        · have hk1 : k + 1 < n := by omega
          obtain ⟨b, off, rfl, hb, hcell⟩ := (hY.ext hx3).at_ (by omega)
          have e0 := hcell k hlt
          have e1 := hcell (k + 1) hk1
          have hki : (k : Int) < n := by omega
          have hki1 : (k : Int) + 1 < n := by omega
          have bd0 := HYB.out k hlt
          have bd1 := HYB.out (k + 1) hk1
          have HS := Lib.hid (flT_push2 (ys := ys) (k := k))
          have HB0 : Hid (sok (bkv (ys[k]?.getD 0) k) (bkp (ys[k]?.getD 0)) = true → sok (bkv (ys[k + 1]?.getD 0) (k + 1)) (bkp (ys[k + 1]?.getD 0)) = true → BkK ys (k + 2)) := fun h h2 => (HST.out.succ h).succ h2
          have HN0 : Hid (sok (bkv (ys[k]?.getD 0) k) (bkp (ys[k]?.getD 0)) = false → ¬ BkK ys n) := fun h h2 => by have := h2 k hlt; rw [h] at this; cases this
          have HN1 : Hid (sok (bkv (ys[k + 1]?.getD 0) (k + 1)) (bkp (ys[k + 1]?.getD 0)) = false → ¬ BkK ys n) := fun h h2 => by have := h2 (k + 1) hk1; rw [h] at this; cases this
          have HZ0 : Hid (bkv (ys[k]?.getD 0) 0 = bkv (ys[k]?.getD 0) k) := by show _ = _; unfold bkv; rw [show k % 2 = 0 by omega]
          have HZ1 : Hid (bkv (ys[k + 1]?.getD 0) 1 = bkv (ys[k + 1]?.getD 0) (k + 1)) := by show _ = _; unfold bkv; rw [show (k + 1) % 2 = 1 by omega]
          clear hcell
          generalize ys[k]?.getD 0 = x0 at *
          generalize ys[k + 1]?.getD 0 = x1 at *
          obtain ⟨p0, hp0⟩ : ∃ p, bkp x0 = p := ⟨_, rfl⟩
          obtain ⟨p1, hp1⟩ : ∃ p, bkp x1 = p := ⟨_, rfl⟩
          rw [hp0] at HS HB0 HN0
          rw [hp1] at HS HB0 HN1
          generalize bkv x0 k = z0 at *
          generalize bkv x1 (k + 1) = z1 at *
          obtain ⟨b0, hb0⟩ : ∃ b, sok z0 p0 = b := ⟨_, rfl⟩
          obtain ⟨b1, hb1⟩ : ∃ b, sok z1 p1 = b := ⟨_, rfl⟩
          have HP0 := Lib.hid hp0
          have HP1 := Lib.hid hp1
          clear hp0 hp1
          go_wp2_with fail
          (with_reducible refine (l05Back_is x0 0 0 rfl z0 p0 b0 HZ0.out HP0.out hb0 _ bd0 (by omega)).mono ?_)
          rintro e w4 ⟨rfl, hx4⟩
          have hz4 := hx4.size
          have c1 : w4.cell? ⟨b, off + (k + 1), none⟩ = some (.int .i64 x1) := hx4.cell hb e1
          have hb4 : b < w4.heap.size := by omega
          have hx34 := hx3.trans hx4
          have hown4 := hown.trans hx4
          clear hx4 hown
          go_wp2_with fail
          (with_reducible refine (l05Back_is x1 1 1 rfl z1 p1 b1 HZ1.out HP1.out hb1 _ bd1 (by omega)).mono ?_)
          rintro e w5 ⟨rfl, hx5⟩
          have hz5 := hx5.size
          (try simp at hz5)
          have d0 : w5.cell? ⟨w4.heap.size, 0, none⟩ = some (.int .i64 z0) := hx5.cell (by simp) (by go_simp)
          have d1 : w5.cell? ⟨w4.heap.size, 1, none⟩ = some (.bool p0) := hx5.cell (by simp) (by go_simp)
          have hw45 : Ext w4 w5 := Ext.trans (by with_reducible (repeat (first | exact Ext.refl _ | apply Ext.drewN | apply Ext.drew | apply Ext.alloc | (refine Ext.set ?_ (by first | (simp; done) | (simp; omega) | omega) _) | (refine Ext.trans ?_ (by assumption))))) hx5
          have hq5 : w4.heap.size < w5.heap.size := by omega
          have hown5 := hown4.trans hw45
          have hx35 := hx34.trans hw45
          clear hx5 hown4 hx34 hw45
          cases b0
          · have HT : Hid (∀ W, Ext w W → RetPu w r (.returned (.tuple #[.slice none 0 0, .int .i64 10])) W) := fun W hW => by rw [HFN'.out (HN0.out hb0)]; exact RetPu.bare hW 10
            have hEf := hE.trans hx35
            go_wp2
            go_ret2
            exact HT.out _ (by with_reducible (repeat (first | exact Ext.refl _ | apply Ext.drewN | apply Ext.drew | apply Ext.alloc | (refine Ext.set ?_ (by first | (simp; done) | (simp; omega) | omega) _) | (refine Ext.trans ?_ (by assumption)))))
          · cases b1
            · have HT : Hid (∀ W, Ext w W → RetPu w r (.returned (.tuple #[.slice none 0 0, .int .i64 10])) W) := fun W hW => by rw [HFN'.out (HN1.out hb1)]; exact RetPu.bare hW 10
              have hEf := hE.trans hx35
              go_wp2
              go_ret2
              exact HT.out _ (by with_reducible (repeat (first | exact Ext.refl _ | apply Ext.drewN | apply Ext.drew | apply Ext.alloc | (refine Ext.set ?_ (by first | (simp; done) | (simp; omega) | omega) _) | (refine Ext.trans ?_ (by assumption)))))
            · have HG := Lib.hid (HB0.out hb0 hb1)
              have hqn : q ≤ 1000000 := hqb
              have hO6 : ∀ o, OwnG 102 4 w3 ((w5.alloc (.cells #[.int .i64 z1, .bool p1] 99)).alloc o) _ q (flT (tbk ys k)) := fun o => hown5.trans (((Ext.refl _).alloc _).alloc _)
              go_wp2_with (at_builtin; refine appG elSyb (by omega) rfl _ _ Tryz.underlying28 rfl rfl (hO6 _) hqn rfl (heap_two2p _ _ _) (ys := [.int .i64 z0, .bool p0, .int .i64 z1, .bool p1]) (by rfl) (by rfl) (by simp [Value.oneCell']) ?_; intro v' w6 hown')
              go_roundw
              case rel => exact ⟨k + 2, q + 1, by omega, by have := HKQ.out; omega, by go_num, HG.out, by rw [HS.out]; exact hown'⟩
              case measure => simp [intOf]; omega
        · obtain rfl : k = n := by omega
          obtain ⟨C, d', rfl⟩ := hown.forms
          have HT : Hid (RetPu w r (.returned (.tuple #[.slice C q d', .int .i64 0])) wr) := by
            show RetPu _ _ _ _
            rw [HF0'.out HST.out]
            exact ⟨C, q, d', rfl, RowS.of_flT (hown.rebase hE) (by rw [tbk_len]; exact HKQ.out), hE.trans hown.ext⟩
          go_wp2
          go_ret2
          exact HT.out
  · have hnm : n + n = m := by rw [← HM.out, ← HQ.out]; unfold qs; rw [if_pos (by rw [HL.out]; omega), List.length_append, HL.out]
    have HYX : Hid (xs ++ xs = ys) := by show _ = _; rw [← HQ.out]; unfold qs; rw [if_pos (by rw [HL.out]; omega)]
    have HNM := Lib.hid hnm
    have hm24 := HM24.out
    go_enter Tryz.func77, Tryz.ntmps77
    go_wp2_with fail
    (with_reducible refine (l02Ok_is A n c xs _ hV _ hI).mono ?_)
    rintro e w1 ⟨rfl, nq, rfl⟩
    have hE1 : Ext w (w.drewN nq) := (Ext.refl w).drewN nq
    go_wp2_with fail
    (with_reducible refine (l00Own_any A n c xs _ (hI.ext hE1) (by omega)).mono ?_)
    rintro e w2 ⟨B0, d0, rfl, hown⟩
    have hz1 := hE1.size
    have hz2 := hown.ext.size
    have hE2 := hE1.trans hown.ext
    clear hnm
    by_cases h12 : 12 < m
    · have h12i : (12 : Int) < m := by omega
      have HT : Hid (∀ W, Ext w W → RetPu w r (.returned (.tuple #[.slice none 0 0, .int .i64 5])) W) := fun W hW => by rw [HF5.out h12]; exact RetPu.bare hW 5
      go_wp2_with (at_builtin; refine appI rfl _ _ rfl rfl hown.own (by omega) rfl (hI.ext hE2) (by omega) ?_; intro v' w3 ho' hg' hat'; have ho2 : w3.ownsRow (w.drewN nq).heap.size 2 1 v' m (ys.map (Value.int .i64)) := (by rw [← HNM.out, ← HYX.out]; exact ho'); obtain ⟨B, d, rfl⟩ : ∃ B d, v' = .slice B m d := (OwnR.forms (w := w.drewN nq) (w' := w3) ⟨ho2, hown.ext.grown hg' (fun x hx => (World.ownsRow.lt hown.own x hx).1)⟩); have hE : Ext w w3 := hE2.grown hg' (fun x hx => Nat.le_trans hz1 (World.ownsRow.lt hown.own x hx).1); have hY : Ints w3 B m ys := Ints.of_own ho2 (by omega) HYI.out; clear ho' ho2 hg' hat')
      go_ret2
      exact HT.out _ hE
    · have h12i : ¬ (12 : Int) < m := by omega
      have HF0' := Lib.hid (HF0.out h12)
      have HFN' := Lib.hid (HFN.out h12)
      clear HF0 HFN HF5
      go_wp2_with (at_builtin; refine appI rfl _ _ rfl rfl hown.own (by omega) rfl (hI.ext hE2) (by omega) ?_; intro v' w3 ho' hg' hat'; have ho2 : w3.ownsRow (w.drewN nq).heap.size 2 1 v' m (ys.map (Value.int .i64)) := (by rw [← HNM.out, ← HYX.out]; exact ho'); obtain ⟨B, d, rfl⟩ : ∃ B d, v' = .slice B m d := (OwnR.forms (w := w.drewN nq) (w' := w3) ⟨ho2, hown.ext.grown hg' (fun x hx => (World.ownsRow.lt hown.own x hx).1)⟩); have hE : Ext w w3 := hE2.grown hg' (fun x hx => Nat.le_trans hz1 (World.ownsRow.lt hown.own x hx).1); have hY : Ints w3 B m ys := Ints.of_own ho2 (by omega) HYI.out; clear ho' ho2 hg' hat')
      have HE0 : Hid (OwnG 102 4 w3 (w3.alloc (.cells #[] 102)) (.slice (some ⟨w3.heap.size, 0, none⟩) 0 0) 0 (flT (tbk ys 0))) := ownG_empty (Ext.refl _) _ _
      go_loopw [5, 6] (fun v i wr => ∃ k q : Nat, k ≤ m ∧ k = 2 * q ∧ i = .int .i64 k ∧ BkK ys k ∧ OwnG 102 4 w3 wr v q (flT (tbk ys k))) (fun _ i _ => m - (intOf i).toNat)
      case atStart => exact ⟨0, 0, Nat.zero_le _, rfl, rfl, BkK.zero ys, HE0.out⟩
      case round =>
        clear HE0
        obtain ⟨k, q, hk, hkq, rfl, hst, hown⟩ := hrel
        have hx3 := hown.ext
        have HKQ := Lib.hid hkq
        have hke : k % 2 = 0 := by omega
        have hqb : q ≤ 1000000 := by omega
        clear hkq
        have HST := Lib.hid hst
        clear hst
        by_cases hlt : k < m
        · have hk1 : k + 1 < m := by omega
          obtain ⟨b, off, rfl, hb, hcell⟩ := (hY.ext hx3).at_ (by omega)
          have e0 := hcell k hlt
          have e1 := hcell (k + 1) hk1
          have hki : (k : Int) < m := by omega
          have hki1 : (k : Int) + 1 < m := by omega
          have bd0 := HYB.out k hlt
          have bd1 := HYB.out (k + 1) hk1
          have HS := Lib.hid (flT_push2 (ys := ys) (k := k))
          have HB0 : Hid (sok (bkv (ys[k]?.getD 0) k) (bkp (ys[k]?.getD 0)) = true → sok (bkv (ys[k + 1]?.getD 0) (k + 1)) (bkp (ys[k + 1]?.getD 0)) = true → BkK ys (k + 2)) := fun h h2 => (HST.out.succ h).succ h2
          have HN0 : Hid (sok (bkv (ys[k]?.getD 0) k) (bkp (ys[k]?.getD 0)) = false → ¬ BkK ys m) := fun h h2 => by have := h2 k hlt; rw [h] at this; cases this
          have HN1 : Hid (sok (bkv (ys[k + 1]?.getD 0) (k + 1)) (bkp (ys[k + 1]?.getD 0)) = false → ¬ BkK ys m) := fun h h2 => by have := h2 (k + 1) hk1; rw [h] at this; cases this
          have HZ0 : Hid (bkv (ys[k]?.getD 0) 0 = bkv (ys[k]?.getD 0) k) := by show _ = _; unfold bkv; rw [show k % 2 = 0 by omega]
          have HZ1 : Hid (bkv (ys[k + 1]?.getD 0) 1 = bkv (ys[k + 1]?.getD 0) (k + 1)) := by show _ = _; unfold bkv; rw [show (k + 1) % 2 = 1 by omega]
          clear hcell
          generalize ys[k]?.getD 0 = x0 at *
          generalize ys[k + 1]?.getD 0 = x1 at *
          obtain ⟨p0, hp0⟩ : ∃ p, bkp x0 = p := ⟨_, rfl⟩
          obtain ⟨p1, hp1⟩ : ∃ p, bkp x1 = p := ⟨_, rfl⟩
          rw [hp0] at HS HB0 HN0
          rw [hp1] at HS HB0 HN1
          generalize bkv x0 k = z0 at *
          generalize bkv x1 (k + 1) = z1 at *
          obtain ⟨b0, hb0⟩ : ∃ b, sok z0 p0 = b := ⟨_, rfl⟩
          obtain ⟨b1, hb1⟩ : ∃ b, sok z1 p1 = b := ⟨_, rfl⟩
          have HP0 := Lib.hid hp0
          have HP1 := Lib.hid hp1
          clear hp0 hp1
          go_wp2_with fail
          (with_reducible refine (l05Back_is x0 0 0 rfl z0 p0 b0 HZ0.out HP0.out hb0 _ bd0 (by omega)).mono ?_)
          rintro e w4 ⟨rfl, hx4⟩
          have hz4 := hx4.size
          have c1 : w4.cell? ⟨b, off + (k + 1), none⟩ = some (.int .i64 x1) := hx4.cell hb e1
          have hb4 : b < w4.heap.size := by omega
          have hx34 := hx3.trans hx4
          have hown4 := hown.trans hx4
          clear hx4 hown
          go_wp2_with fail
          (with_reducible refine (l05Back_is x1 1 1 rfl z1 p1 b1 HZ1.out HP1.out hb1 _ bd1 (by omega)).mono ?_)
          rintro e w5 ⟨rfl, hx5⟩
          have hz5 := hx5.size
          (try simp at hz5)
          have d0 : w5.cell? ⟨w4.heap.size, 0, none⟩ = some (.int .i64 z0) := hx5.cell (by simp) (by go_simp)
          have d1 : w5.cell? ⟨w4.heap.size, 1, none⟩ = some (.bool p0) := hx5.cell (by simp) (by go_simp)
          have hw45 : Ext w4 w5 := Ext.trans (by with_reducible (repeat (first | exact Ext.refl _ | apply Ext.drewN | apply Ext.drew | apply Ext.alloc | (refine Ext.set ?_ (by first | (simp; done) | (simp; omega) | omega) _) | (refine Ext.trans ?_ (by assumption))))) hx5
          have hq5 : w4.heap.size < w5.heap.size := by omega
          have hown5 := hown4.trans hw45
          have hx35 := hx34.trans hw45
          clear hx5 hown4 hx34 hw45
          cases b0
          · have HT : Hid (∀ W, Ext w W → RetPu w r (.returned (.tuple #[.slice none 0 0, .int .i64 10])) W) := fun W hW => by rw [HFN'.out (HN0.out hb0)]; exact RetPu.bare hW 10
            have hEf := hE.trans hx35
            go_wp2
            go_ret2
            exact HT.out _ (by with_reducible (repeat (first | exact Ext.refl _ | apply Ext.drewN | apply Ext.drew | apply Ext.alloc | (refine Ext.set ?_ (by first | (simp; done) | (simp; omega) | omega) _) | (refine Ext.trans ?_ (by assumption)))))
          · cases b1
            · have HT : Hid (∀ W, Ext w W → RetPu w r (.returned (.tuple #[.slice none 0 0, .int .i64 10])) W) := fun W hW => by rw [HFN'.out (HN1.out hb1)]; exact RetPu.bare hW 10
              have hEf := hE.trans hx35
              go_wp2
              go_ret2
              exact HT.out _ (by with_reducible (repeat (first | exact Ext.refl _ | apply Ext.drewN | apply Ext.drew | apply Ext.alloc | (refine Ext.set ?_ (by first | (simp; done) | (simp; omega) | omega) _) | (refine Ext.trans ?_ (by assumption)))))
            · have HG := Lib.hid (HB0.out hb0 hb1)
              have hqn : q ≤ 1000000 := hqb
              have hO6 : ∀ o, OwnG 102 4 w3 ((w5.alloc (.cells #[.int .i64 z1, .bool p1] 99)).alloc o) _ q (flT (tbk ys k)) := fun o => hown5.trans (((Ext.refl _).alloc _).alloc _)
              go_wp2_with (at_builtin; refine appG elSyb (by omega) rfl _ _ Tryz.underlying28 rfl rfl (hO6 _) hqn rfl (heap_two2p _ _ _) (ys := [.int .i64 z0, .bool p0, .int .i64 z1, .bool p1]) (by rfl) (by rfl) (by simp [Value.oneCell']) ?_; intro v' w6 hown')
              go_roundw
              case rel => exact ⟨k + 2, q + 1, by omega, by have := HKQ.out; omega, by go_num, HG.out, by rw [HS.out]; exact hown'⟩
              case measure => simp [intOf]; omega
        · obtain rfl : k = m := by omega
          obtain ⟨C, d', rfl⟩ := hown.forms
          have HT : Hid (RetPu w r (.returned (.tuple #[.slice C q d', .int .i64 0])) wr) := by
            show RetPu _ _ _ _
            rw [HF0'.out HST.out]
            exact ⟨C, q, d', rfl, RowS.of_flT (hown.rebase hE) (by rw [tbk_len]; exact HKQ.out), hE.trans hown.ext⟩
          go_wp2
          go_ret2
          exact HT.out
end Go.Proofs.YtbihbhdaenhdoaaGreat

namespace Go.Proofs.YtbihbhdaenhdoaaGreat
set_option linter.unusedVariables false
set_option linter.unusedSimpArgs false
open Go.ChangeShapes Go.WideShapes Go.ChangeAt Go.RowKit Go.Joins Go.Deep

theorem repeated2 (A : Option Addr) (n c : Nat) (xs : List Int) (w : World) (hI : Ints w A n xs) (hn : n ≤ 100) :
    Calls Tryz.prog 63 #[.slice A n c, .int .i64 2] w (RetO w (rpt xs 2)) := repeated_any A n c xs 2 w hI (by omega) (by omega)
theorem isSyncThrow_eq (v z : Int) (hv : v = z) (p b : Bool) (h : sok z p = b) (w : World) :
    Calls Tryz.prog 64 #[.agg #[.int .i64 v, .bool p]] w fun e w' => e = .returned (.bool b) ∧ Ext w w' := by
  subst hv h
  exact isSyncThrow_any v p w
theorem heap_two2e (w : World) (o o' : Obj) : ((w.alloc o).alloc o').drew.heap[w.heap.size + 1]? = some o' := heap_two2p w o o'
theorem heap_alloc_newd (w : World) (o : Obj) : (w.alloc o).drew.heap[w.heap.size]? = some o := heap_alloc_new w o
theorem rpt_two (xs : List Int) : rpt xs 2 = xs ++ xs := by
  show (rpt xs 1) ++ xs = _
  show ((rpt xs 0) ++ xs) ++ xs = _
  rfl
set_option maxRecDepth 100000 in
set_option maxHeartbeats 8000000 in
theorem implPairUp_any (A : Option Addr) (n c : Nat) (xs : List Int) (w : World) (hI : Ints w A n xs) (hV : vpat xs = true) :
    Calls Tryz.prog 25 #[.slice A n c] w (RetPu w (pup xs)) := by
  have hthr := thr_iff.1 (by have := hV; unfold vpat at this; rw [Bool.and_eq_true] at this; exact this.1)
  rw [hI.len] at hthr
  obtain ⟨hbd, n1, n12⟩ := hthr
  have HL := Lib.hid hI.len
  obtain ⟨r, hr⟩ : ∃ r, pup xs = r := ⟨_, rfl⟩
  obtain ⟨ys, hys⟩ : ∃ ys, qs xs = ys := ⟨_, rfl⟩
  obtain ⟨m, hm⟩ : ∃ m, ys.length = m := ⟨_, rfl⟩
  have hme : m % 2 = 0 := by rw [← hm, ← hys]; exact qs_even xs
  have HYB : Hid (∀ i, i < m → 0 ≤ ys[i]?.getD 0 ∧ ys[i]?.getD 0 ≤ 15) := fun i hi => by
    rw [← hys]
    unfold qs
    split
    · by_cases h : i < n
      · rw [List.getElem?_append_left (by rw [HL.out]; exact h)]; exact hbd i h
      · have : ys.length = n + n := by rw [← hys]; unfold qs; rw [if_pos (by assumption), List.length_append, HL.out]
        rw [List.getElem?_append_right (by rw [HL.out]; omega), HL.out]; exact hbd _ (by omega)
    · have : ys.length = n := by rw [← hys]; unfold qs; rw [if_neg (by assumption), HL.out]
      exact hbd i (by omega)
  have HYI : Hid (∀ y ∈ ys, -9223372036854775808 ≤ y ∧ y ≤ 9223372036854775807) := fun y hy => by
    obtain ⟨i, hi, e⟩ := List.getElem_of_mem hy
    have := HYB.out i (by omega)
    rw [List.getElem?_eq_getElem hi] at this
    simp [e] at this
    omega
  have HF5 : Hid (12 < m → r = ([], 5)) := fun h => by rw [← hr]; unfold pup; rw [hys, hm, if_pos h]
  have HF0 : Hid (¬ 12 < m → BkK ys m → r = (tbk ys m, 0)) := fun h h2 => by rw [← hr]; unfold pup; rw [hys, hm, if_neg h, if_pos h2]
  have HFN : Hid (¬ 12 < m → ¬ BkK ys m → r = ([], 10)) := fun h h2 => by rw [← hr]; unfold pup; rw [hys, hm, if_neg h, if_neg h2]
  have HQ := Lib.hid hys
  have HM := Lib.hid hm
  clear hys hbd
  rw [hr]
  clear hr
  have HM24 : Hid (m ≤ 24) := by
    show m ≤ 24
    rw [← hm, ← HQ.out]; unfold qs; split <;> (try rw [List.length_append]) <;> rw [HL.out] <;> omega
  clear hm
  obtain ⟨x, hx0⟩ : ∃ x, n % 2 = x := ⟨_, rfl⟩
  have hx1 : Int.tmod (n : Int) 2 = x := by rw [← hx0]; rfl
  have hxb : x = 0 ∨ x = 1 := by omega
  rcases hxb with rfl | rfl
  · obtain rfl : ys = xs := by rw [← HQ.out]; unfold qs; rw [if_neg (by rw [HL.out]; omega)]
    obtain rfl : n = m := by rw [← HM.out]; exact HL.out.symm
    go_enter Tryz.func25, Tryz.ntmps25
    go_wp2_with fail
    (with_reducible refine (ValidPattern_is A n c ys _ hV _ hI).mono ?_)
    rintro e w3 ⟨rfl, hE⟩
    have hY := hI.ext hE
    clear hV hI
    obtain ⟨B, hBB⟩ : ∃ B, A = B := ⟨_, rfl⟩
    obtain ⟨d, hdd⟩ : ∃ d, c = d := ⟨_, rfl⟩
    subst hBB hdd
    by_cases h12 : 12 < n
    · have h12i : (12 : Int) < n := by omega
      have HT : Hid (∀ W, Ext w W → RetPu w r (.returned (.tuple #[.slice none 0 0, .int .i64 5])) W) := fun W hW => by rw [HF5.out h12]; exact RetPu.bare hW 5
      go_wp2
      go_ret2
      exact HT.out _ hE
    · have h12i : ¬ (12 : Int) < n := by omega
      have HF0' := Lib.hid (HF0.out h12)
      have HFN' := Lib.hid (HFN.out h12)
      clear HF0 HFN HF5
      go_wp2
      have HE0 : Hid (OwnG 99 2 w3 (w3.alloc (.cells #[] 99)) (.slice (some ⟨w3.heap.size, 0, none⟩) 0 0) 0 (flT (tbk ys 0))) := ownG_empty (Ext.refl _) _ _
      go_loopw [4, 25] (fun v i wr => ∃ k : Nat, k ≤ n ∧ i = .int .i64 k ∧ BkK ys k ∧ OwnG 99 2 w3 wr v k (flT (tbk ys k))) (fun _ i _ => n - (intOf i).toNat)
      case atStart => exact ⟨0, Nat.zero_le _, rfl, BkK.zero ys, HE0.out⟩
      case round =>
        clear HE0
        obtain ⟨k, hk, rfl, hst, hown⟩ := hrel
        have HST := Lib.hid hst
        clear hst
        have hx3 := hown.ext
        by_cases hlt : k < n
        · obtain ⟨b, off, rfl, hb, hcell⟩ := (hY.ext hx3).at_ (by omega)
          have e0 := hcell k hlt
          have hki : (k : Int) < n := by omega
          have bd0 := HYB.out k hlt
          have HS := Lib.hid (flT_push (ys := ys) (k := k))
          have HB0 : Hid (sok (bkv (ys[k]?.getD 0) k) (bkp (ys[k]?.getD 0)) = true → BkK ys (k + 1)) := fun h => HST.out.succ h
          have HN0 : Hid (sok (bkv (ys[k]?.getD 0) k) (bkp (ys[k]?.getD 0)) = false → ¬ BkK ys n) := fun h h2 => by have := h2 k hlt; rw [h] at this; cases this
          clear hcell hx3
          generalize ys[k]?.getD 0 = x0 at *
          obtain ⟨u, rfl⟩ : ∃ u : Nat, x0 = u := ⟨x0.toNat, by omega⟩
          obtain ⟨p0, hp0⟩ : ∃ p, bkp (u : Int) = p := ⟨_, rfl⟩
          obtain ⟨z0, hz0⟩ : ∃ z, bkv (u : Int) k = z := ⟨_, rfl⟩
          rw [hp0, hz0] at HS HB0 HN0
          obtain ⟨b0, hb0⟩ : ∃ b, sok z0 p0 = b := ⟨_, rfl⟩
          have HP0 := Lib.hid hp0
          have HZ0 := Lib.hid hz0
          clear hp0 hz0
          obtain ⟨t, ht0⟩ : ∃ t, u % 2 = t := ⟨_, rfl⟩
          have ht1 : Int.tmod (u : Int) 2 = t := by rw [← ht0]; rfl
          obtain ⟨s, hs0⟩ : ∃ s, k % 2 = s := ⟨_, rfl⟩
          have hs1 : Int.tmod (k : Int) 2 = s := by rw [← hs0]; rfl
          have hsb : s = 0 ∨ s = 1 := by omega
          rcases (show t = 0 ∨ t = 1 by omega) with rfl | rfl
          · obtain rfl : z0 = (u : Int) := by have := HZ0.out; unfold bkv at this; rw [if_neg (by omega)] at this; omega
            obtain rfl : p0 = false := by rw [← HP0.out]; exact decide_eq_false (by omega)
            clear HZ0 HP0
            go_wp2_with fail
            (with_reducible refine (isSyncThrow_eq _ ((u : Int)) (by omega) false b0 hb0 _).mono ?_)
            rintro e w5 ⟨rfl, hx5⟩
            have hz5 := hx5.size
            (try simp [World.setCell] at hz5)
            have hq5 : wr.heap.size < w5.heap.size := by omega
            have d0 : w5.cell? ⟨wr.heap.size, 0, none⟩ = some (.int .i64 ((u : Int))) := (hx5.cells.1 wr.heap.size 0 (by simp)).trans (by go_simp; try omega)
            have d1 : w5.cell? ⟨wr.heap.size, 1, none⟩ = some (.bool false) := (hx5.cells.1 wr.heap.size 1 (by simp)).trans (by go_simp)
            have hw5 : Ext wr w5 := Ext.trans (by with_reducible (repeat (first | exact Ext.refl _ | apply Ext.drewN | apply Ext.drew | apply Ext.alloc | (refine Ext.set ?_ (by first | (simp; done) | (simp; omega) | omega) _) | (refine Ext.trans ?_ (by assumption))))) hx5
            have hown5 := hown.trans hw5
            clear hx5 hown hw5
            cases b0
            · have HT : Hid (∀ W, Ext w W → RetPu w r (.returned (.tuple #[.slice none 0 0, .int .i64 10])) W) := fun W hW => by rw [HFN'.out (HN0.out hb0)]; exact RetPu.bare hW 10
              have hEf := hE.trans hown5.ext
              clear hown5
              go_wp2
              go_ret2
              exact HT.out _ (by with_reducible (repeat (first | exact Ext.refl _ | apply Ext.drewN | apply Ext.drew | apply Ext.alloc | (refine Ext.set ?_ (by first | (simp; done) | (simp; omega) | omega) _) | (refine Ext.trans ?_ (by assumption)))))
            · have HG := Lib.hid (HB0.out hb0)
              go_wp2_with (at_builtin; refine appG elSth (by omega) rfl _ _ Tryz.underlying97 rfl rfl (hown5.trans ((Ext.refl _).alloc _)) (by omega) rfl (heap_alloc_new _ _) (ys := [.int .i64 ((u : Int)), .bool false]) (by rfl) (by rfl) (by simp [Value.oneCell']) ?_; intro v' w6 hown')
              go_roundw
              case rel => exact ⟨k + 1, by omega, by go_num, HG.out, by rw [HS.out]; exact hown'⟩
              case measure => simp [intOf]; omega
          · rcases hsb with rfl | rfl
            · obtain rfl : z0 = (u : Int) - 1 := by have := HZ0.out; unfold bkv at this; rw [if_pos (by omega), if_neg (by omega)] at this; omega
              obtain rfl : p0 = true := by rw [← HP0.out]; exact decide_eq_true (by omega)
              clear HZ0 HP0
              go_wp2_with fail
              (with_reducible refine (isSyncThrow_eq _ ((u : Int) - 1) (by omega) true b0 hb0 _).mono ?_)
              rintro e w5 ⟨rfl, hx5⟩
              have hz5 := hx5.size
              (try simp [World.setCell] at hz5)
              have hq5 : wr.heap.size < w5.heap.size := by omega
              have d0 : w5.cell? ⟨wr.heap.size, 0, none⟩ = some (.int .i64 ((u : Int) - 1)) := (hx5.cells.1 wr.heap.size 0 (by simp)).trans (by go_simp; try omega)
              have d1 : w5.cell? ⟨wr.heap.size, 1, none⟩ = some (.bool true) := (hx5.cells.1 wr.heap.size 1 (by simp)).trans (by go_simp)
              have hw5 : Ext wr w5 := Ext.trans (by with_reducible (repeat (first | exact Ext.refl _ | apply Ext.drewN | apply Ext.drew | apply Ext.alloc | (refine Ext.set ?_ (by first | (simp; done) | (simp; omega) | omega) _) | (refine Ext.trans ?_ (by assumption))))) hx5
              have hown5 := hown.trans hw5
              clear hx5 hown hw5
              cases b0
              · have HT : Hid (∀ W, Ext w W → RetPu w r (.returned (.tuple #[.slice none 0 0, .int .i64 10])) W) := fun W hW => by rw [HFN'.out (HN0.out hb0)]; exact RetPu.bare hW 10
                have hEf := hE.trans hown5.ext
                clear hown5
                go_wp2
                go_ret2
                exact HT.out _ (by with_reducible (repeat (first | exact Ext.refl _ | apply Ext.drewN | apply Ext.drew | apply Ext.alloc | (refine Ext.set ?_ (by first | (simp; done) | (simp; omega) | omega) _) | (refine Ext.trans ?_ (by assumption)))))
              · have HG := Lib.hid (HB0.out hb0)
                go_wp2_with (at_builtin; refine appG elSth (by omega) rfl _ _ Tryz.underlying97 rfl rfl (hown5.trans ((Ext.refl _).alloc _)) (by omega) rfl (heap_alloc_new _ _) (ys := [.int .i64 ((u : Int) - 1), .bool true]) (by rfl) (by rfl) (by simp [Value.oneCell']) ?_; intro v' w6 hown')
                go_roundw
                case rel => exact ⟨k + 1, by omega, by go_num, HG.out, by rw [HS.out]; exact hown'⟩
                case measure => simp [intOf]; omega
            · obtain rfl : z0 = (u : Int) + 1 := by have := HZ0.out; unfold bkv at this; rw [if_pos (by omega), if_pos (by omega)] at this; omega
              obtain rfl : p0 = true := by rw [← HP0.out]; exact decide_eq_true (by omega)
              clear HZ0 HP0
              go_wp2_with fail
              (with_reducible refine (isSyncThrow_eq _ ((u : Int) + 1) (by omega) true b0 hb0 _).mono ?_)
              rintro e w5 ⟨rfl, hx5⟩
              have hz5 := hx5.size
              (try simp [World.setCell] at hz5)
              have hq5 : wr.heap.size < w5.heap.size := by omega
              have d0 : w5.cell? ⟨wr.heap.size, 0, none⟩ = some (.int .i64 ((u : Int) + 1)) := (hx5.cells.1 wr.heap.size 0 (by simp)).trans (by go_simp; try omega)
              have d1 : w5.cell? ⟨wr.heap.size, 1, none⟩ = some (.bool true) := (hx5.cells.1 wr.heap.size 1 (by simp)).trans (by go_simp)
              have hw5 : Ext wr w5 := Ext.trans (by with_reducible (repeat (first | exact Ext.refl _ | apply Ext.drewN | apply Ext.drew | apply Ext.alloc | (refine Ext.set ?_ (by first | (simp; done) | (simp; omega) | omega) _) | (refine Ext.trans ?_ (by assumption))))) hx5
              have hown5 := hown.trans hw5
              clear hx5 hown hw5
              cases b0
              · have HT : Hid (∀ W, Ext w W → RetPu w r (.returned (.tuple #[.slice none 0 0, .int .i64 10])) W) := fun W hW => by rw [HFN'.out (HN0.out hb0)]; exact RetPu.bare hW 10
                have hEf := hE.trans hown5.ext
                clear hown5
                go_wp2
                go_ret2
                exact HT.out _ (by with_reducible (repeat (first | exact Ext.refl _ | apply Ext.drewN | apply Ext.drew | apply Ext.alloc | (refine Ext.set ?_ (by first | (simp; done) | (simp; omega) | omega) _) | (refine Ext.trans ?_ (by assumption)))))
              · have HG := Lib.hid (HB0.out hb0)
                go_wp2_with (at_builtin; refine appG elSth (by omega) rfl _ _ Tryz.underlying97 rfl rfl (hown5.trans ((Ext.refl _).alloc _)) (by omega) rfl (heap_alloc_new _ _) (ys := [.int .i64 ((u : Int) + 1), .bool true]) (by rfl) (by rfl) (by simp [Value.oneCell']) ?_; intro v' w6 hown')
                go_roundw
                case rel => exact ⟨k + 1, by omega, by go_num, HG.out, by rw [HS.out]; exact hown'⟩
                case measure => simp [intOf]; omega
        · obtain rfl : n = k := by omega
          obtain ⟨C, d', rfl⟩ := hown.forms
          have HBK := Lib.hid (HF0'.out HST.out)
          have hE4 := hE.trans hown.ext
          have HROW := Lib.hid hown.row
          clear HFN' hown hx3
          go_wp2
          have HE1 : Hid (OwnG 102 4 wr (wr.alloc (.cells #[] 102)) (.slice (some ⟨wr.heap.size, 0, none⟩) 0 0) 0 (flT (tbk ys 0))) := ownG_empty (Ext.refl _) _ _
          rename World => w4
          go_loopw [8, 9] (fun v i wr => ∃ j q : Nat, j ≤ n ∧ j = 2 * q ∧ i = .int .i64 j ∧ OwnG 102 4 w4 wr v q (flT (tbk ys j))) (fun _ i _ => n - (intOf i).toNat)
          case atStart => exact ⟨0, 0, Nat.zero_le _, rfl, rfl, HE1.out⟩
          case round =>
            clear HE1
            obtain ⟨j, q, hj, hjq, rfl, hown⟩ := hrel
            have HJQ := Lib.hid hjq
            have hje : j % 2 = 0 := by omega
            have hqb : q ≤ 1000000 := by omega
            clear hjq
            have hx4 := hown.ext
            by_cases hlt : j < n
            · have hj1 : j + 1 < n := by omega
              obtain ⟨g, rfl, hg⟩ := HROW.out.form (by omega)
              have hji : (j : Int) < n := by omega
              have hji1 : (j : Int) + 1 < n := by omega
              have HS := Lib.hid (flT_push2 (ys := ys) (k := j))
              have a0 := (HROW.out.ext hx4).cellAt (p := j * 2) (by omega)
              have a1 := (HROW.out.ext hx4).cellAt (p := j * 2 + 1) (by omega)
              have a2 := (HROW.out.ext hx4).cellAt (p := (j + 1) * 2) (by omega)
              have a3 := (HROW.out.ext hx4).cellAt (p := (j + 1) * 2 + 1) (by omega)
              obtain ⟨g0, g1⟩ := flT_get (tbk ys n) j (by rw [tbk_len]; omega)
              obtain ⟨g2, g3⟩ := flT_get (tbk ys n) (j + 1) (by rw [tbk_len]; omega)
              obtain ⟨t0, t1⟩ := tbk_get (ys := ys) hlt
              obtain ⟨t2, t3⟩ := tbk_get (ys := ys) hj1
              have e0 := a0.1.trans (g0.trans (by rw [t0]))
              have e1 := a1.1.trans (g1.trans (by rw [t1]))
              have e2 := a2.1.trans (g2.trans (by rw [t2]))
              have e3 := a3.1.trans (g3.trans (by rw [t3]))
              have hgw : g < wr.heap.size := by have := hx4.size; omega
              clear a0 a1 a2 a3 g0 g1 g2 g3 t0 t1 t2 t3
              generalize bkv (ys[j]?.getD 0) j = z0 at *
              generalize bkv (ys[j + 1]?.getD 0) (j + 1) = z1 at *
              generalize bkp (ys[j]?.getD 0) = p0 at *
              generalize bkp (ys[j + 1]?.getD 0) = p1 at *
              have HOW := Lib.hid hown
              clear hown
              have hw1 : IntKind.i64.wrap ((j : Int) + 1) = (j : Int) + 1 := IntWalk.i64_in _ (by omega)
              have hw2 : (0 : Int) ≤ (j : Int) + 1 := by omega
              have hw3 : ((j : Int) + 1).toNat = j + 1 := by omega
              go_wp2
              go_region_law (refine stepG elSyb (by omega) rfl _ _ Tryz.underlying28 rfl rfl (HOW.out.trans ((((Ext.refl _).alloc _)).drew)) hqb rfl (heap_alloc_newd _ _) (ys := [.int .i64 z0, .bool p0, .int .i64 z1, .bool p1]) (by rfl) (by rfl) (by simp [Value.oneCell']) ?_; intro v' w6 hown')
              all_goals
                go_wp2
                go_roundw
                case rel => exact ⟨j + 2, q + 1, by omega, by have := HJQ.out; omega, by go_num, by rw [HS.out]; exact hown'⟩
                case measure => simp [intOf]; omega
            · obtain rfl : n = j := by omega
              obtain ⟨C2, d2, rfl⟩ := hown.forms
              have HT : Hid (RetPu w r (.returned (.tuple #[.slice C2 q d2, .int .i64 0])) wr) := by
                show RetPu _ _ _ _
                rw [HBK.out]
                exact ⟨C2, q, d2, rfl, RowS.of_flT (hown.rebase hE4) (by rw [tbk_len]; exact HJQ.out), hE4.trans hown.ext⟩
              go_wp2
              go_ret2
              exact HT.out
  · have hnm : n + n = m := by rw [← HM.out, ← HQ.out]; unfold qs; rw [if_pos (by rw [HL.out]; omega), List.length_append, HL.out]
    have HYX : Hid (xs ++ xs = ys) := by show _ = _; rw [← HQ.out]; unfold qs; rw [if_pos (by rw [HL.out]; omega)]
    have HNM := Lib.hid hnm
    have hm24 := HM24.out
    go_enter Tryz.func25, Tryz.ntmps25
    go_wp2_with fail
    (with_reducible refine (ValidPattern_is A n c xs _ hV _ hI).mono ?_)
    rintro e w1 ⟨rfl, hE1⟩
    go_wp2_with fail
    (with_reducible refine (repeated2 A n c xs _ (hI.ext hE1) (by omega)).mono ?_)
    rintro e w3 ⟨B, d, rfl, hown⟩
    have hlm : (rpt xs 2).length = m := by rw [rpt_two, HYX.out, HM.out]
    rw [hlm] at hown ⊢
    rw [rpt_two, HYX.out] at hown
    have hE := hE1.trans hown.ext
    have hY : Ints w3 B m ys := Ints.of_own hown.own (by omega) HYI.out
    clear hown hV hI hE1 hnm hlm
    by_cases h12 : 12 < m
    · have h12i : (12 : Int) < m := by omega
      have HT : Hid (∀ W, Ext w W → RetPu w r (.returned (.tuple #[.slice none 0 0, .int .i64 5])) W) := fun W hW => by rw [HF5.out h12]; exact RetPu.bare hW 5
      go_wp2
      go_ret2
      exact HT.out _ hE
    · have h12i : ¬ (12 : Int) < m := by omega
      have HF0' := Lib.hid (HF0.out h12)
      have HFN' := Lib.hid (HFN.out h12)
      clear HF0 HFN HF5
      go_wp2
      have HE0 : Hid (OwnG 99 2 w3 (w3.alloc (.cells #[] 99)) (.slice (some ⟨w3.heap.size, 0, none⟩) 0 0) 0 (flT (tbk ys 0))) := ownG_empty (Ext.refl _) _ _
      go_loopw [4, 25] (fun v i wr => ∃ k : Nat, k ≤ m ∧ i = .int .i64 k ∧ BkK ys k ∧ OwnG 99 2 w3 wr v k (flT (tbk ys k))) (fun _ i _ => m - (intOf i).toNat)
      case atStart => exact ⟨0, Nat.zero_le _, rfl, BkK.zero ys, HE0.out⟩
      case round =>
        clear HE0
        obtain ⟨k, hk, rfl, hst, hown⟩ := hrel
        have HST := Lib.hid hst
        clear hst
        have hx3 := hown.ext
        by_cases hlt : k < m
        · obtain ⟨b, off, rfl, hb, hcell⟩ := (hY.ext hx3).at_ (by omega)
          have e0 := hcell k hlt
          have hki : (k : Int) < m := by omega
          have bd0 := HYB.out k hlt
          have HS := Lib.hid (flT_push (ys := ys) (k := k))
          have HB0 : Hid (sok (bkv (ys[k]?.getD 0) k) (bkp (ys[k]?.getD 0)) = true → BkK ys (k + 1)) := fun h => HST.out.succ h
          have HN0 : Hid (sok (bkv (ys[k]?.getD 0) k) (bkp (ys[k]?.getD 0)) = false → ¬ BkK ys m) := fun h h2 => by have := h2 k hlt; rw [h] at this; cases this
          clear hcell hx3
          generalize ys[k]?.getD 0 = x0 at *
          obtain ⟨u, rfl⟩ : ∃ u : Nat, x0 = u := ⟨x0.toNat, by omega⟩
          obtain ⟨p0, hp0⟩ : ∃ p, bkp (u : Int) = p := ⟨_, rfl⟩
          obtain ⟨z0, hz0⟩ : ∃ z, bkv (u : Int) k = z := ⟨_, rfl⟩
          rw [hp0, hz0] at HS HB0 HN0
          obtain ⟨b0, hb0⟩ : ∃ b, sok z0 p0 = b := ⟨_, rfl⟩
          have HP0 := Lib.hid hp0
          have HZ0 := Lib.hid hz0
          clear hp0 hz0
          obtain ⟨t, ht0⟩ : ∃ t, u % 2 = t := ⟨_, rfl⟩
          have ht1 : Int.tmod (u : Int) 2 = t := by rw [← ht0]; rfl
          obtain ⟨s, hs0⟩ : ∃ s, k % 2 = s := ⟨_, rfl⟩
          have hs1 : Int.tmod (k : Int) 2 = s := by rw [← hs0]; rfl
          have hsb : s = 0 ∨ s = 1 := by omega
          rcases (show t = 0 ∨ t = 1 by omega) with rfl | rfl
          · obtain rfl : z0 = (u : Int) := by have := HZ0.out; unfold bkv at this; rw [if_neg (by omega)] at this; omega
            obtain rfl : p0 = false := by rw [← HP0.out]; exact decide_eq_false (by omega)
            clear HZ0 HP0
            go_wp2_with fail
            (with_reducible refine (isSyncThrow_eq _ ((u : Int)) (by omega) false b0 hb0 _).mono ?_)
            rintro e w5 ⟨rfl, hx5⟩
            have hz5 := hx5.size
            (try simp [World.setCell] at hz5)
            have hq5 : wr.heap.size < w5.heap.size := by omega
            have d0 : w5.cell? ⟨wr.heap.size, 0, none⟩ = some (.int .i64 ((u : Int))) := (hx5.cells.1 wr.heap.size 0 (by simp)).trans (by go_simp; try omega)
            have d1 : w5.cell? ⟨wr.heap.size, 1, none⟩ = some (.bool false) := (hx5.cells.1 wr.heap.size 1 (by simp)).trans (by go_simp)
            have hw5 : Ext wr w5 := Ext.trans (by with_reducible (repeat (first | exact Ext.refl _ | apply Ext.drewN | apply Ext.drew | apply Ext.alloc | (refine Ext.set ?_ (by first | (simp; done) | (simp; omega) | omega) _) | (refine Ext.trans ?_ (by assumption))))) hx5
            have hown5 := hown.trans hw5
            clear hx5 hown hw5
            cases b0
            · have HT : Hid (∀ W, Ext w W → RetPu w r (.returned (.tuple #[.slice none 0 0, .int .i64 10])) W) := fun W hW => by rw [HFN'.out (HN0.out hb0)]; exact RetPu.bare hW 10
              have hEf := hE.trans hown5.ext
              clear hown5
              go_wp2
              go_ret2
              exact HT.out _ (by with_reducible (repeat (first | exact Ext.refl _ | apply Ext.drewN | apply Ext.drew | apply Ext.alloc | (refine Ext.set ?_ (by first | (simp; done) | (simp; omega) | omega) _) | (refine Ext.trans ?_ (by assumption)))))
            · have HG := Lib.hid (HB0.out hb0)
              go_wp2_with (at_builtin; refine appG elSth (by omega) rfl _ _ Tryz.underlying97 rfl rfl (hown5.trans ((Ext.refl _).alloc _)) (by omega) rfl (heap_alloc_new _ _) (ys := [.int .i64 ((u : Int)), .bool false]) (by rfl) (by rfl) (by simp [Value.oneCell']) ?_; intro v' w6 hown')
              go_roundw
              case rel => exact ⟨k + 1, by omega, by go_num, HG.out, by rw [HS.out]; exact hown'⟩
              case measure => simp [intOf]; omega
          · rcases hsb with rfl | rfl
            · obtain rfl : z0 = (u : Int) - 1 := by have := HZ0.out; unfold bkv at this; rw [if_pos (by omega), if_neg (by omega)] at this; omega
              obtain rfl : p0 = true := by rw [← HP0.out]; exact decide_eq_true (by omega)
              clear HZ0 HP0
              go_wp2_with fail
              (with_reducible refine (isSyncThrow_eq _ ((u : Int) - 1) (by omega) true b0 hb0 _).mono ?_)
              rintro e w5 ⟨rfl, hx5⟩
              have hz5 := hx5.size
              (try simp [World.setCell] at hz5)
              have hq5 : wr.heap.size < w5.heap.size := by omega
              have d0 : w5.cell? ⟨wr.heap.size, 0, none⟩ = some (.int .i64 ((u : Int) - 1)) := (hx5.cells.1 wr.heap.size 0 (by simp)).trans (by go_simp; try omega)
              have d1 : w5.cell? ⟨wr.heap.size, 1, none⟩ = some (.bool true) := (hx5.cells.1 wr.heap.size 1 (by simp)).trans (by go_simp)
              have hw5 : Ext wr w5 := Ext.trans (by with_reducible (repeat (first | exact Ext.refl _ | apply Ext.drewN | apply Ext.drew | apply Ext.alloc | (refine Ext.set ?_ (by first | (simp; done) | (simp; omega) | omega) _) | (refine Ext.trans ?_ (by assumption))))) hx5
              have hown5 := hown.trans hw5
              clear hx5 hown hw5
              cases b0
              · have HT : Hid (∀ W, Ext w W → RetPu w r (.returned (.tuple #[.slice none 0 0, .int .i64 10])) W) := fun W hW => by rw [HFN'.out (HN0.out hb0)]; exact RetPu.bare hW 10
                have hEf := hE.trans hown5.ext
                clear hown5
                go_wp2
                go_ret2
                exact HT.out _ (by with_reducible (repeat (first | exact Ext.refl _ | apply Ext.drewN | apply Ext.drew | apply Ext.alloc | (refine Ext.set ?_ (by first | (simp; done) | (simp; omega) | omega) _) | (refine Ext.trans ?_ (by assumption)))))
              · have HG := Lib.hid (HB0.out hb0)
                go_wp2_with (at_builtin; refine appG elSth (by omega) rfl _ _ Tryz.underlying97 rfl rfl (hown5.trans ((Ext.refl _).alloc _)) (by omega) rfl (heap_alloc_new _ _) (ys := [.int .i64 ((u : Int) - 1), .bool true]) (by rfl) (by rfl) (by simp [Value.oneCell']) ?_; intro v' w6 hown')
                go_roundw
                case rel => exact ⟨k + 1, by omega, by go_num, HG.out, by rw [HS.out]; exact hown'⟩
                case measure => simp [intOf]; omega
            · obtain rfl : z0 = (u : Int) + 1 := by have := HZ0.out; unfold bkv at this; rw [if_pos (by omega), if_pos (by omega)] at this; omega
              obtain rfl : p0 = true := by rw [← HP0.out]; exact decide_eq_true (by omega)
              clear HZ0 HP0
              go_wp2_with fail
              (with_reducible refine (isSyncThrow_eq _ ((u : Int) + 1) (by omega) true b0 hb0 _).mono ?_)
              rintro e w5 ⟨rfl, hx5⟩
              have hz5 := hx5.size
              (try simp [World.setCell] at hz5)
              have hq5 : wr.heap.size < w5.heap.size := by omega
              have d0 : w5.cell? ⟨wr.heap.size, 0, none⟩ = some (.int .i64 ((u : Int) + 1)) := (hx5.cells.1 wr.heap.size 0 (by simp)).trans (by go_simp; try omega)
              have d1 : w5.cell? ⟨wr.heap.size, 1, none⟩ = some (.bool true) := (hx5.cells.1 wr.heap.size 1 (by simp)).trans (by go_simp)
              have hw5 : Ext wr w5 := Ext.trans (by with_reducible (repeat (first | exact Ext.refl _ | apply Ext.drewN | apply Ext.drew | apply Ext.alloc | (refine Ext.set ?_ (by first | (simp; done) | (simp; omega) | omega) _) | (refine Ext.trans ?_ (by assumption))))) hx5
              have hown5 := hown.trans hw5
              clear hx5 hown hw5
              cases b0
              · have HT : Hid (∀ W, Ext w W → RetPu w r (.returned (.tuple #[.slice none 0 0, .int .i64 10])) W) := fun W hW => by rw [HFN'.out (HN0.out hb0)]; exact RetPu.bare hW 10
                have hEf := hE.trans hown5.ext
                clear hown5
                go_wp2
                go_ret2
                exact HT.out _ (by with_reducible (repeat (first | exact Ext.refl _ | apply Ext.drewN | apply Ext.drew | apply Ext.alloc | (refine Ext.set ?_ (by first | (simp; done) | (simp; omega) | omega) _) | (refine Ext.trans ?_ (by assumption)))))
              · have HG := Lib.hid (HB0.out hb0)
                go_wp2_with (at_builtin; refine appG elSth (by omega) rfl _ _ Tryz.underlying97 rfl rfl (hown5.trans ((Ext.refl _).alloc _)) (by omega) rfl (heap_alloc_new _ _) (ys := [.int .i64 ((u : Int) + 1), .bool true]) (by rfl) (by rfl) (by simp [Value.oneCell']) ?_; intro v' w6 hown')
                go_roundw
                case rel => exact ⟨k + 1, by omega, by go_num, HG.out, by rw [HS.out]; exact hown'⟩
                case measure => simp [intOf]; omega
        · obtain rfl : m = k := by omega
          obtain ⟨C, d', rfl⟩ := hown.forms
          have HBK := Lib.hid (HF0'.out HST.out)
          have hE4 := hE.trans hown.ext
          have HROW := Lib.hid hown.row
          clear HFN' hown hx3
          go_wp2
          have HE1 : Hid (OwnG 102 4 wr (wr.alloc (.cells #[] 102)) (.slice (some ⟨wr.heap.size, 0, none⟩) 0 0) 0 (flT (tbk ys 0))) := ownG_empty (Ext.refl _) _ _
          rename World => w4
          go_loopw [8, 9] (fun v i wr => ∃ j q : Nat, j ≤ m ∧ j = 2 * q ∧ i = .int .i64 j ∧ OwnG 102 4 w4 wr v q (flT (tbk ys j))) (fun _ i _ => m - (intOf i).toNat)
          case atStart => exact ⟨0, 0, Nat.zero_le _, rfl, rfl, HE1.out⟩
          case round =>
            clear HE1
            obtain ⟨j, q, hj, hjq, rfl, hown⟩ := hrel
            have HJQ := Lib.hid hjq
            have hje : j % 2 = 0 := by omega
            have hqb : q ≤ 1000000 := by omega
            clear hjq
            have hx4 := hown.ext
            by_cases hlt : j < m
            · have hj1 : j + 1 < m := by omega
              obtain ⟨g, rfl, hg⟩ := HROW.out.form (by omega)
              have hji : (j : Int) < m := by omega
              have hji1 : (j : Int) + 1 < m := by omega
              have HS := Lib.hid (flT_push2 (ys := ys) (k := j))
              have a0 := (HROW.out.ext hx4).cellAt (p := j * 2) (by omega)
              have a1 := (HROW.out.ext hx4).cellAt (p := j * 2 + 1) (by omega)
              have a2 := (HROW.out.ext hx4).cellAt (p := (j + 1) * 2) (by omega)
              have a3 := (HROW.out.ext hx4).cellAt (p := (j + 1) * 2 + 1) (by omega)
              obtain ⟨g0, g1⟩ := flT_get (tbk ys m) j (by rw [tbk_len]; omega)
              obtain ⟨g2, g3⟩ := flT_get (tbk ys m) (j + 1) (by rw [tbk_len]; omega)
              obtain ⟨t0, t1⟩ := tbk_get (ys := ys) hlt
              obtain ⟨t2, t3⟩ := tbk_get (ys := ys) hj1
              have e0 := a0.1.trans (g0.trans (by rw [t0]))
              have e1 := a1.1.trans (g1.trans (by rw [t1]))
              have e2 := a2.1.trans (g2.trans (by rw [t2]))
              have e3 := a3.1.trans (g3.trans (by rw [t3]))
              have hgw : g < wr.heap.size := by have := hx4.size; omega
              clear a0 a1 a2 a3 g0 g1 g2 g3 t0 t1 t2 t3
              generalize bkv (ys[j]?.getD 0) j = z0 at *
              generalize bkv (ys[j + 1]?.getD 0) (j + 1) = z1 at *
              generalize bkp (ys[j]?.getD 0) = p0 at *
              generalize bkp (ys[j + 1]?.getD 0) = p1 at *
              have HOW := Lib.hid hown
              clear hown
              have hw1 : IntKind.i64.wrap ((j : Int) + 1) = (j : Int) + 1 := IntWalk.i64_in _ (by omega)
              have hw2 : (0 : Int) ≤ (j : Int) + 1 := by omega
              have hw3 : ((j : Int) + 1).toNat = j + 1 := by omega
              go_wp2
              go_region_law (refine stepG elSyb (by omega) rfl _ _ Tryz.underlying28 rfl rfl (HOW.out.trans ((((Ext.refl _).alloc _)).drew)) hqb rfl (heap_alloc_newd _ _) (ys := [.int .i64 z0, .bool p0, .int .i64 z1, .bool p1]) (by rfl) (by rfl) (by simp [Value.oneCell']) ?_; intro v' w6 hown')
              all_goals
                go_wp2
                go_roundw
                case rel => exact ⟨j + 2, q + 1, by omega, by have := HJQ.out; omega, by go_num, by rw [HS.out]; exact hown'⟩
                case measure => simp [intOf]; omega
            · obtain rfl : m = j := by omega
              obtain ⟨C2, d2, rfl⟩ := hown.forms
              have HT : Hid (RetPu w r (.returned (.tuple #[.slice C2 q d2, .int .i64 0])) wr) := by
                show RetPu _ _ _ _
                rw [HBK.out]
                exact ⟨C2, q, d2, rfl, RowS.of_flT (hown.rebase hE4) (by rw [tbk_len]; exact HJQ.out), hE4.trans hown.ext⟩
              go_wp2
              go_ret2
              exact HT.out
end Go.Proofs.YtbihbhdaenhdoaaGreat
