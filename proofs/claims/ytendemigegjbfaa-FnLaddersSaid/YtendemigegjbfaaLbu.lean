/- Bent and drawn pictures: contracts of l18Bent, DrawColumnOf, DrawCheckLadder. No condition but the stated bounds. -/
import Derived.Test.YtendemigegjbfaaSpl
import Derived.Test.YtendemigegjbfaaLdr
namespace Go.Proofs.Ytendemigegjbfaa
set_option linter.unusedVariables false
set_option linter.unusedSimpArgs false
open Go.Joins Go.RowKit


/-- The lines of a picture, in memory of the call's own, apart from the source's block. -/
structure Lns (w0 W : World) (g : Nat) (v : Value) (n : Nat) (ss : List ByteArray) : Prop where
  own : OwnG 9 1 w0 W v n (ss.map Value.string)
  ap : Apart 0 (g + 1) v
  sz : ∀ s ∈ ss, s.size ≤ 1000
section
variable {w0 W W' : World} {g n : Nat} {v : Value} {ss : List ByteArray}
theorem Lns.len (h : Lns w0 W g v n ss) : ss.length = n := by have := h.own.own.1; simpa using this
theorem Lns.past (h : Lns w0 W g v n ss) (k : W.grownBy W' (some g)) (hx : Ext w0 W') : Lns w0 W' g v n ss :=
  ⟨⟨own_far h.own.own k (fun b e hk => by cases e; have := h.ap _ hk; omega), hx⟩, h.ap, h.sz⟩
theorem Lns.ext (h : Lns w0 W g v n ss) (k : Ext W W') : Lns w0 W' g v n ss := ⟨h.own.trans k, h.ap, h.sz⟩
theorem Lns.cell {gl c : Nat} (h : Lns w0 W g (.slice (some ⟨gl, 0, none⟩) n c) n ss) {p : Nat} (hp : p < n) : W.cell? ⟨gl, p, none⟩ = some (.string (gs ss p)) ∧ W.frozen? ⟨gl, p, none⟩ = false := by
  refine ⟨?_, World.ownsRow.frozenAt h.own.own p⟩
  rw [World.ownsRow.cellAt h.own.own p (by omega), List.getElem?_map, List.getElem?_eq_getElem (show p < ss.length by rw [h.len]; exact hp)]
  simp [gs, List.getElem?_eq_getElem (show p < ss.length by rw [h.len]; exact hp)]
theorem Lns.szAt (h : Lns w0 W g v n ss) {p : Nat} (hp : p < n) : (gs ss p).size ≤ 1000 := by
  have hl := h.len
  unfold gs
  rw [List.getElem?_eq_getElem (by omega)]
  exact h.sz _ (List.getElem_mem _)
theorem Lns.ne {gl c : Nat} (h : Lns w0 W g (.slice (some ⟨gl, 0, none⟩) n c) n ss) : gl ≠ g := by
  have := h.ap gl rfl
  omega
theorem Lns.lo {gl c : Nat} (h : Lns w0 W g (.slice (some ⟨gl, 0, none⟩) n c) n ss) : w0.heap.size ≤ gl := (World.ownsRow.lt h.own.own gl rfl).1
theorem Lns.gt {gl c : Nat} (h : Lns w0 W g (.slice (some ⟨gl, 0, none⟩) n c) n ss) : g < gl := by
  have := h.ap gl rfl
  omega
theorem Lns.other (h : Lns w0 W g v n ss) {q : Addr} (hq : ∀ b, v.ownBlock = some b → b ≠ q.block) (h0 : w0.heap.size ≤ q.block) (u : Value) : Lns w0 (W.setCell q u) g v n ss :=
  ⟨⟨own_far h.own.own (only_setCell (World.grownBy.refl W (some q.block)) rfl u) (fun b e hk => by cases e; exact hq _ hk rfl), h.own.ext.set h0 u⟩, h.ap, h.sz⟩
theorem Lns.put {gl c : Nat} (h : Lns w0 W g (.slice (some ⟨gl, 0, none⟩) n c) n ss) (p : Nat) (s : ByteArray) (hs : s.size ≤ 1000) : Lns w0 (W.setCell ⟨gl, p, none⟩ (.string s)) g (.slice (some ⟨gl, 0, none⟩) n c) n (ss.set p s) := by
  refine ⟨⟨?_, h.own.ext.set (by show w0.heap.size ≤ gl; exact h.lo) _⟩, h.ap, fun y hy => ?_⟩
  · rw [List.map_set]
    exact (World.ownsRow.stored h.own.own p (.string s)).1
  · rcases List.mem_or_eq_of_mem_set hy with h1 | h1
    · exact h.sz y h1
    · rw [h1]; exact hs
end
section
variable {w W W' : World} {g n c gb : Nat} {l : List UInt8}
theorem OwnB.past {v : Value} (h : OwnB w W v l) (k : W.grownBy W' (some g)) (hne : ∀ b, v.ownBlock = some b → b ≠ g) (hx : Ext w W') : OwnB w W' v l := by
  obtain ⟨b, cap, cur, fz, e, hb, hg, rest⟩ := h.at_
  refine ⟨⟨b, cap, cur, fz, e, hb, ?_, rest⟩, hx⟩
  exact (k.block b (Array.getElem?_eq_some_iff.1 hg).1 (fun e2 => hne b (by subst e; rfl) (by cases e2; rfl))).trans hg
theorem OwnB.free (h : OwnB w W (.slice (some ⟨gb, 0, none⟩) n c) l) {i : Nat} (hi : i < l.length) : W.frozen? ⟨gb, i, none⟩ = false := by
  obtain ⟨b, cap, cur, fz, e, hb, hg, hfz, hle, _⟩ := h.at_
  injection e with e1 e2 e3
  cases e1
  obtain ⟨lo, hi'⟩ := fz
  simp only [World.frozen?, hg, Bool.and_eq_false_iff, decide_eq_false_iff_not]
  rcases hfz with h1 | h1
  · left; simp only at h1; omega
  · right; cases h1; omega
theorem OwnB.put (h : OwnB w W (.slice (some ⟨gb, 0, none⟩) n c) l) (i : Nat) (x : UInt8) : OwnB w (W.setCell ⟨gb, i, none⟩ (.int .u8 (x.toNat : Int))) (.slice (some ⟨gb, 0, none⟩) n c) (l.set i x) := by
  obtain ⟨b, cap, cur, fz, e, hb, hg, hfz, hle, hcm, hcs, ht⟩ := h.at_
  injection e with e1 e2 e3
  cases e1
  refine ⟨⟨gb, cap, _, fz, by rw [List.length_set, e2, e3], hb, block_setCell hg _, hfz, by rw [List.length_set]; exact hle, hcm, by simpa using hcs, ?_⟩, h.ext.set hb _⟩
  rw [List.length_set, Array.toList_setIfInBounds, List.take_set, ht]
  unfold bcs
  rw [List.map_set]
end
theorem l02DrawV_is (q : Nat) (p : Int) (w0 w : World) (g : Nat) (A : Option Addr) (n c : Nat) (xs : List Int) (top : Nat) (h : Srd w0 w g A n c xs top) (hp : p = q) (ht : top ≤ 900000000) (hq : 1 ≤ q ∧ q ≤ 7) :
    Calls Try.prog 69 #[.pointer (some ⟨g, 0, none⟩), .int .i64 p] w (DrawnV w0 w g A n c xs (top + 400)) := by
  subst hp
  exact l02DrawV_any q w0 w g A n c xs top h ht hq
/-- A drawn picture, perhaps bent. -/
def DrawnS (w0 : World) (g : Nat) (A : Option Addr) (n c : Nat) (xs : List Int) (top : Nat) (e : Ending) (w' : World) : Prop :=
  ∃ (B : Option Addr) (m d : Nat) (ss : List ByteArray), e = .returned (.slice B m d) ∧ Lns w0 w' g (.slice B m d) m ss ∧ m ≤ 70 ∧ Srd w0 w' g A n c xs top
set_option maxHeartbeats 8000000 in
set_option maxRecDepth 100000 in
theorem l18Bent_any (w0 w : World) (g : Nat) (A : Option Addr) (n c : Nat) (xs : List Int) (top : Nat) (h : Srd w0 w g A n c xs top) (ht : top ≤ 100000000) :
    Calls Try.prog 45 #[.pointer (some ⟨g, 0, none⟩)] w (DrawnS w0 g A n c xs (top + 500)) := by
  have hborn := h.born
  have hlt := h.lt
  go_enter Try.func45, Try.ntmps45
  go_wp2_with fail
  (with_reducible refine (l02DrawV_is 5 5 w0 _ g A n c xs top h rfl (by omega) (by omega)).mono ?_)
  rintro e w1 ⟨B, m, d, ys, rfl, hown, hm, hv, hs1, hg1⟩
  have hpb := prp_bd hv
  have hthr := (thr_iff.1 (vpat_thr hv)).1
  have hyl : ys.length = m := by have := hown.1; simpa using this
  have hI1 : Ints w1 B m ys := own_ints hown (by omega) (fun y hy => by
    obtain ⟨i, hi, rfl⟩ := List.mem_iff_getElem.1 hy
    have := hthr i hi
    rw [List.getElem?_eq_getElem hi] at this
    simp at this
    omega)
  obtain ⟨N, hN⟩ : ∃ N : Nat, prp ys = N := ⟨(prp ys).toNat, by omega⟩
  have hN15 : N ≤ 15 := by omega
  have HV := Lib.hid hv
  have HN := Lib.hid hN
  have hz1 := hg1.size
  have hBne : ∀ a, B = some a → a.block ≠ g := fun a e => by
    subst e
    rcases ownsRow_forms hown with ⟨hv, h0⟩ | ⟨gg, cap, hv⟩
    · cases hv
    · cases hv
      have := (World.ownsRow.lt hown gg rfl).1
      show gg ≠ g
      omega
  clear hown hthr hyl hN hv hpb
  go_wp2_with fail
  (with_reducible refine (pick_any 14 w0 _ g A n c xs _ hs1 (by omega)).mono ?_)
  rintro e w2 ⟨a, rfl, ha, hs2, hg2⟩
  obtain ⟨k, rfl⟩ : ∃ k : Nat, a = k := ⟨a.toNat, by omega⟩
  have hk13 : k ≤ 13 := by omega
  have hI2 : Ints w2 B m ys := ⟨hI1.len, hI1.small, hI1.bds, fun hn => by
    obtain ⟨b, off, e, hb, hc⟩ := hI1.at_ hn
    exact ⟨b, off, e, Nat.lt_of_lt_of_le hb hg2.size, fun i hi => (grown_cell hg2 hb (hBne _ e) _).trans (hc i hi)⟩⟩
  have hz2 := hg2.size
  go_wp2_with fail
  (with_reducible refine (l18Lines_any B m d ys k N _ hI2 HV.out (by omega) HN.out).mono ?_)
  rintro e w3 ⟨A3, c3, rfl, ho⟩
  have hs3 := hs2.after ho.ext
  have hlns : Lns w0 w3 g (.slice A3 k c3) k (ldl (thAt ys) N k) := ⟨ho.rebase hs2.ext, fun b hb => by have := (World.ownsRow.lt ho.own b hb).1; omega, fun s hs => by
    unfold ldl at hs
    rw [List.mem_map] at hs
    obtain ⟨j, _, rfl⟩ := hs
    show (lnb (thAt ys) j N).toArray.size ≤ 1000
    rw [List.size_toArray, lnb_len]
    omega⟩
  clear ho hs1 hs2 hg1 hg2 hI1 hI2
  by_cases hk0 : k = 0
  · subst hk0
    have HL := Lib.hid hlns
    clear hlns
    go_wp2
    go_ret
    exact ⟨A3, 0, c3, _, rfl, HL.out, by omega, hs3.more (by omega)⟩
  · have hkb : ((k : Int) == 0) = false := by simp; omega
    have hk1 : 0 < k := by omega
    obtain ⟨gl, hgl⟩ : ∃ gl, A3 = some ⟨gl, 0, none⟩ := by
      obtain ⟨gl, cl, e, _⟩ := World.ownsRow.form hlns.own.own hk1
      injection e with e1 _ _
      exact ⟨gl, e1⟩
    subst hgl
    have hs17 : Hid (∀ j, j < k → 2 ≤ (gs (ldl (thAt ys) N k) j).size ∧ (gs (ldl (thAt ys) N k) j).size ≤ 100) := fun j hj => by
      have e : gs (ldl (thAt ys) N k) j = ⟨(lnb (thAt ys) j N).toArray⟩ := by simp [gs, ldl, hj]
      rw [e]
      show 2 ≤ (lnb (thAt ys) j N).toArray.size ∧ (lnb (thAt ys) j N).toArray.size ≤ 100
      rw [List.size_toArray, lnb_len]
      omega
    have hglz : gl < w3.heap.size := (World.ownsRow.lt hlns.own.own gl rfl).2
    have hglg := hlns.gt
    generalize ldl (thAt ys) N k = ss at *
    go_wp2_with fail
    (with_reducible refine (pick_any k w0 _ g A n c xs _ hs3 (by omega)).mono ?_)
    rintro e w4 ⟨a, rfl, ha, hs4, hg4⟩
    obtain ⟨p, rfl⟩ : ∃ p : Nat, a = p := ⟨a.toNat, by omega⟩
    have hpk : p < k := by omega
    have hpki : (p : Int) < k := by omega
    have hl4 := hlns.past hg4 hs4.ext
    have hz4 := hg4.size
    clear hlns hs3 hg4
    go_wp2_with fail
    (with_reducible refine (pick_any 10 w0 _ g A n c xs _ hs4 (by omega)).mono ?_)
    rintro e w5 ⟨x, rfl, hx, hs5, hg5⟩
    have hl5 := hl4.past hg5 hs5.ext
    have hz5 := hg5.size
    clear hl4 hs4 hg5
    have hxc : x = 0 ∨ x = 1 ∨ x = 2 ∨ x = 3 ∨ 4 ≤ x := by omega
    rcases hxc with rfl | rfl | rfl | rfl | hx4
    · have hc5 := (hl5.cell hpk).1
      have hsz := hs17.out p hpk
      generalize gs ss p = s0 at *
      go_wp2_with fail
      (with_reducible refine (l01Spoil_any s0 w0 _ g A n c xs _ hs5 (by omega) (by omega)).mono ?_)
      clear hc5
      rintro e w6 ⟨s, rfl, hss, hs6, hg6⟩
      have hl6 := hl5.past hg6 hs6.ext
      obtain ⟨hc6, hf6⟩ := hl6.cell hpk
      have HL := Lib.hid (hl6.put p s (by omega))
      have HS : Hid (Srd w0 (w6.setCell ⟨gl, p, none⟩ (.string s)) g A n c xs (top + 500)) := (hs6.put hglg _).more (by omega)
      clear hl5 hl6 hs5 hs6 hg6
      go_wp2
      go_ret
      exact ⟨_, k, c3, _, rfl, HL.out, by omega, HS.out⟩
    · have hc5 := (hl5.cell hpk).1
      have hsz := hs17.out p hpk
      generalize gs ss p = s0 at *
      have hcv := fun W => run_bytes_of_string (P := Try.prog) W 9 22 5 s0 Try.underlying9 Try.underlying22 Try.underlying5
      have hgz5 : g < w5.heap.size := hs5.lt
      have OB := ownB_conv w0 w5 s0 (by omega) hs5.ext
      go_wp2_with fail
      (with_reducible refine (pick_any s0.size w0 _ g A n c xs _ (hs5.after (by with_reducible (repeat (first | exact Ext.refl _ | apply Ext.drewN | apply Ext.drew | apply Ext.alloc | (refine Ext.set ?_ (by first | (simp; done) | (simp; omega) | omega) _) | (refine Ext.trans ?_ (by assumption)))))) (by omega)).mono ?_)
      clear hc5 hcv
      rintro e w6 ⟨a, rfl, ha, hs6, hg6⟩
      obtain ⟨i, rfl⟩ : ∃ i : Nat, a = i := ⟨a.toNat, by omega⟩
      have hi : i < s0.size := by omega
      have hii : (i : Int) < s0.size := by omega
      have OB6 := OB.past hg6 (fun b hb => by cases hb; show w5.heap.size ≠ g; omega) hs6.ext
      have hz6 := Nat.le_trans (show w5.heap.size + 1 ≤ _ from (Nat.le_of_eq (World.size_alloc w5.drew _).symm)) hg6.size
      have hl6 := (hl5.ext ((Ext.refl w5).drew.alloc _)).past hg6 hs6.ext
      clear hl5 hs5 OB hg6
      have hgz6 : g < w6.heap.size := by omega
      generalize grownCap w5 s0.size 0 5 = cap at *
      go_wp2_with fail
      (with_reducible refine (among_any _ 6 _ [42, 124, 46, 53, 48, 32] w0 _ g A n c xs _ (hs6.after (by with_reducible (repeat (first | exact Ext.refl _ | apply Ext.drewN | apply Ext.drew | apply Ext.alloc | (refine Ext.set ?_ (by first | (simp; done) | (simp; omega) | omega) _) | (refine Ext.trans ?_ (by assumption)))))) (by omega) (ints_newL w6 [42, 124, 46, 53, 48, 32] _ (by simp) (by simp)) (by omega) (by rintro a e; cases e; show w6.heap.size ≠ g; omega)).mono ?_)
      rintro e w7 ⟨y, rfl, hy, hs7, hg7⟩
      have hyb : 0 ≤ y ∧ y ≤ 255 := by simp at hy; omega
      clear hy
      obtain ⟨y8, rfl⟩ : ∃ y8 : UInt8, y = (y8.toNat : Int) := ⟨UInt8.ofNat y.toNat, by
        have : (UInt8.ofNat y.toNat).toNat = y.toNat := by simp; omega
        rw [this]; omega⟩
      have hyw : IntKind.u8.wrap (y8.toNat : Int) = (y8.toNat : Int) := IntWalk.u8_in _ hyb
      have hz7 := Nat.le_trans (show w6.heap.size + 1 ≤ _ from (Nat.le_of_eq (World.size_alloc w6 _).symm)) hg7.size
      have OB7 := (OB6.trans (show Ext w6 (w6.alloc _) from (Ext.refl _).alloc _)).past hg7 (fun b hb => by cases hb; show w5.heap.size ≠ g; omega) hs7.ext
      have hl7 := (hl6.ext ((Ext.refl w6).alloc _)).past hg7 hs7.ext
      clear hl6 hs6 OB6 hg7
      have hln : s0.data.toList.length = s0.size := by simp
      have hcb := OB7.cells i (by omega)
      have hfb := OB7.free (i := i) (by omega)
      have OB8 := OB7.put i y8
      obtain ⟨hc7, hf7⟩ := hl7.cell hpk
      have hne : gl ≠ w5.heap.size := by omega
      have hne2 : ¬ w5.heap.size = gl := by omega
      have hcv8 : (Go.convert 22 9 (.slice (some ⟨w5.heap.size, 0, none⟩) s0.size cap)).run Try.prog (w7.setCell ⟨w5.heap.size, i, none⟩ (.int .u8 (y8.toNat : Int))) = .ok (.string ⟨(s0.data.toList.set i y8).toArray⟩) (w7.setCell ⟨w5.heap.size, i, none⟩ (.int .u8 (y8.toNat : Int))) := by
        obtain ⟨g8, c8, e8, h8⟩ := convB OB8
        injection e8 with a1 a2 a3
        injection a1 with a4
        injection a4 with a5
        subst a5 a3
        rwa [← a2] at h8
      have HL8 := Lib.hid ((hl7.other (q := ⟨w5.heap.size, i, none⟩) (fun b hb => by cases hb; exact hne) (by show w0.heap.size ≤ w5.heap.size; omega) (.int .u8 (y8.toNat : Int))).put p ⟨(s0.data.toList.set i y8).toArray⟩ (by show (s0.data.toList.set i y8).toArray.size ≤ 1000; rw [List.size_toArray, List.length_set]; omega))
      have HS8 : Hid (Srd w0 ((w7.setCell ⟨w5.heap.size, i, none⟩ (.int .u8 (y8.toNat : Int))).setCell ⟨gl, p, none⟩ (.string ⟨(s0.data.toList.set i y8).toArray⟩)) g A n c xs (top + 500)) := ((hs7.put (by show g < w5.heap.size; omega) _).put hglg _).more (by omega)
      generalize s0.data.toList.set i y8 = l8 at *
      clear hl7 hs7 OB7 OB8
      go_wp2
      go_ret
      exact ⟨_, k, c3, _, rfl, HL8.out, by omega, HS8.out⟩
    · have hc5 := (hl5.cell hk1).1
      have hsz := hs17.out 0 hk1
      generalize gs ss 0 = s0 at *
      have HC : Hid (ss.map Value.string ++ [.string s0] = (ss ++ [s0]).map Value.string) := by show _ = _; simp
      go_wp2_with (first | (at_builtin; refine appGB elStr (by omega) rfl _ _ Try.underlying31 rfl rfl (hl5.own.trans (by with_reducible (repeat (first | exact Ext.refl _ | apply Ext.drewN | apply Ext.drew | apply Ext.alloc | (refine Ext.set ?_ (by first | (simp; done) | (simp; omega) | omega) _) | (refine Ext.trans ?_ (by assumption)))))) hl5.ap (by simp; omega) (by omega) rfl (heap_alloc_new _ _) (ys := [.string s0]) (by rfl) (by rfl) (by simp [Value.oneCell']) ?_; intro v' w6 hown' hap' hg'))
      obtain ⟨A6, c6, rfl⟩ := hown'.forms
      rw [HC.out] at hown'
      have HL : Hid (Lns w0 w6 g (.slice A6 (k + 1) c6) (k + 1) (ss ++ [s0])) := ⟨hown', hap', fun s hs => by rw [List.mem_append] at hs; rcases hs with h1 | h1; exact hl5.sz s h1; simp at h1; rw [h1]; omega⟩
      have HS : Hid (Srd w0 w6 g A n c xs (top + 500)) := ((hs5.after ((Ext.refl _).alloc _)).own hg' (fun b hb => by cases hb; exact hglg)).more (by omega)
      clear hl5 hs5 hown' hap' hg'
      go_wp2
      go_ret
      exact ⟨_, k + 1, c6, _, rfl, HL.out, by omega, HS.out⟩
    · have hgz5 : g < w5.heap.size := hs5.lt
      have hL0 : Lns w0 (w5.alloc (.cells #[] 9)) g (.slice (some ⟨w5.heap.size, 0, none⟩) 0 0) 0 [] := ⟨ownG_empty hs5.ext _ _, fun b hb => by cases hb; right; show g + 1 ≤ w5.heap.size; omega, by simp⟩
      have hs5a := hs5.after (show Ext w5 (w5.alloc (.cells #[] 9)) from (Ext.refl _).alloc _)
      go_wp2_with fail
      (with_reducible refine (pick_any 2 w0 _ g A n c xs _ hs5a (by omega)).mono ?_)
      rintro e w6 ⟨a, rfl, ha, hs6, hg6⟩
      obtain ⟨r, hr⟩ : ∃ r : Nat, 60 + a = r := ⟨(60 + a).toNat, by omega⟩
      have hr61 : r ≤ 61 := by omega
      have hL6 := hL0.past hg6 hs6.ext
      clear hl5 hs5 hL0 hs5a hg6
      go_wp2
      go_loopw [3, 6] (fun v i wr => ∃ (j : Nat) (zs : List ByteArray), j ≤ r ∧ i = .int .i64 ((r : Int) - j) ∧ Lns w0 wr g v j zs ∧ Srd w0 wr g A n c xs (top + 500)) (fun _ i _ => (intOf i).toNat)
      case atStart => exact ⟨0, [], by omega, by simp, hL6, hs6.more (by omega)⟩
      case round =>
        obtain ⟨j, zs, hj, rfl, hL, hsr⟩ := hrel
        by_cases hjr : j < r
        · have hji : (0 : Int) < (r : Int) - j := by omega
          have HC : Hid (zs.map Value.string ++ [.string ⟨#[49, 32, 42]⟩] = (zs ++ [(⟨#[49, 32, 42]⟩ : ByteArray)]).map Value.string) := by show _ = _; simp
          have hgz := hsr.lt
          go_wp2_with (first | (at_builtin; refine appGB elStr (by omega) rfl _ _ Try.underlying31 rfl rfl (hL.own.trans (by with_reducible (repeat (first | exact Ext.refl _ | apply Ext.drewN | apply Ext.drew | apply Ext.alloc | (refine Ext.set ?_ (by first | (simp; done) | (simp; omega) | omega) _) | (refine Ext.trans ?_ (by assumption)))))) hL.ap (by simp; omega) (by omega) rfl (heap_alloc_new _ _) (ys := [.string ⟨#[49, 32, 42]⟩]) (by rfl) (by rfl) (by simp [Value.oneCell']) ?_; intro v' w7 hown' hap' hg'))
          rw [HC.out] at hown'
          go_roundw
          case rel => exact ⟨j + 1, _, by omega, by congr 1; omega, ⟨hown', hap', fun s hs => by rw [List.mem_append] at hs; rcases hs with h1 | h1; exact hL.sz s h1; simp at h1; rw [h1]; decide⟩, (hsr.after ((Ext.refl _).alloc _)).own hg' (fun b hb => by have := hL.ap b hb; omega)⟩
          case measure => simp [intOf]; omega
        · obtain rfl : j = r := by omega
          have hj0 : ¬ (0 : Int) < (j : Int) - j := by omega
          obtain ⟨A7, c7, rfl⟩ := hL.own.forms
          have HL := Lib.hid hL
          clear hL
          go_wp2
          go_ret
          exact ⟨_, j, c7, zs, rfl, HL.out, by omega, hsr⟩
    · have n0 : (x == 0) = false := by simp; omega
      have n1 : (x == 1) = false := by simp; omega
      have n2 : (x == 2) = false := by simp; omega
      have n3 : (x == 3) = false := by simp; omega
      have HL := Lib.hid hl5
      clear hl5
      go_wp2
      go_ret
      exact ⟨_, k, c3, ss, rfl, HL.out, by omega, hs5.more (by omega)⟩
theorem Lns.strs {w0 W : World} {g n c : Nat} {B : Option Addr} {ss : List ByteArray} (h : Lns w0 W g (.slice B n c) n ss) (hn : n ≤ 70) : Strs W B n ss :=
  h.own.row.strs (by omega) (fun s hs => by have := h.sz s hs; omega)
theorem Lns.cap {w0 W : World} {g n c : Nat} {B : Option Addr} {ss : List ByteArray} (h : Lns w0 W g (.slice B n c) n ss) : n ≤ c := ownr_cap h.own.own
set_option maxHeartbeats 1000000 in
theorem DrawColumnOf_any (A : Option Addr) (n c : Nat) (xs : List Int) (w : World) (hB : Byts w A n xs) :
    Calls Try.prog 14 #[.slice A n c] w fun e w' => ∃ (B : Option Addr) (m d : Nat) (ss : List ByteArray) (q : Int), e = .returned (.tuple #[.slice B m d, .int .i64 q]) ∧ Strs w' B m ss ∧ (-10 ≤ q ∧ q ≤ 10) ∧ Ext w w' := by
  go_enter Try.func14, Try.ntmps14
  go_wp2_with fail
  (with_reducible refine (l00From_any A n c xs _ hB).mono ?_)
  rintro e w1 ⟨g, rfl, hs1, -⟩
  have hlt1 := hs1.lt
  go_wp2_with fail
  (with_reducible refine (l18Bent_any w _ g A n c xs 0 hs1 (by omega)).mono ?_)
  rintro e w2 ⟨B, m, d, ss, rfl, hl, hm, hs2⟩
  go_wp2_with fail
  (with_reducible refine (pick_any 6 w _ g A n c xs _ hs2 (by omega)).mono ?_)
  rintro e w3 ⟨p1, rfl, hp1, hs3, hg3⟩
  go_wp2_with fail
  (with_reducible refine (pick_any 12 w _ g A n c xs _ hs3 (by omega)).mono ?_)
  rintro e w4 ⟨p2, rfl, hp2, hs4, hg4⟩
  have hp11 : 0 ≤ p2 ∧ p2 ≤ 11 := by omega
  have hp6 : 0 ≤ p1 ∧ p1 ≤ 5 := by omega
  have HI : Hid (Strs w4 B m ss) := ((hl.past hg3 hs3.ext).past hg4 hs4.ext).strs hm
  have HX : Hid (Ext w w4) := hs4.ext
  clear hl hs1 hs2 hs3 hs4 hg3 hg4
  go_wp2
  exact bodyPost_ret (v := .tuple #[.slice B m d, .int .i64 (p1 - p2 / 11)]) (by simp [results, Try.results14, go_sem, *]) rfl ⟨B, m, d, ss, p1 - p2 / 11, rfl, HI.out, by omega, HX.out⟩
set_option maxHeartbeats 1000000 in
theorem DrawCheckLadder_any (A : Option Addr) (n c : Nat) (xs : List Int) (w : World) (hB : Byts w A n xs) :
    Calls Try.prog 26 #[.slice A n c] w fun e w' => ∃ (B : Option Addr) (m d : Nat) (ss : List ByteArray), e = .returned (.slice B m d) ∧ Strs w' B m ss ∧ m ≤ d ∧ Ext w w' := by
  go_enter Try.func26, Try.ntmps26
  go_wp2_with fail
  (with_reducible refine (l00From_any A n c xs _ hB).mono ?_)
  rintro e w1 ⟨g, rfl, hs1, -⟩
  go_wp2_with fail
  (with_reducible refine (l18Bent_any w _ g A n c xs 0 hs1 (by omega)).mono ?_)
  rintro e w2 ⟨B, m, d, ss, rfl, hl, hm, hs2⟩
  have HI : Hid (Strs w2 B m ss) := hl.strs hm
  have HC : Hid (m ≤ d) := hl.cap
  have HX : Hid (Ext w w2) := hs2.ext
  clear hl hs1 hs2
  go_wp2
  go_ret
  exact ⟨B, m, d, ss, rfl, HI.out, HC.out, HX.out⟩
end Go.Proofs.Ytendemigegjbfaa
