/- Drawn routines: l19Draw. No condition but the stated bounds. -/
import Derived.Test.YtinkaglngblddaaDoorSwl
import Derived.Test.YtinkaglngblddaaDoorRtm4
import Derived.Deep.CutRange
namespace Go.Proofs.YtinkaglngblddaaDoor
set_option linter.unusedVariables false
set_option linter.unusedSimpArgs false
open Go.ChangeShapes Go.WideShapes Go.ChangeAt Go.RowKit Go.Joins Go.Deep

theorem HoldsD {cs : List (Addr × Value)} {w w' : World} {row : Option Nat} (h : Holds cs w) (k : w.grownBy w' row) (hne : ∀ c ∈ cs, some c.1.block ≠ row) : Holds cs w' := fun c hc => (k.cell_far c.1 (World.block_lt_of_cell? w c.1 (h c hc)) (hne c hc)).trans (h c hc)
theorem blkG {w w' : World} {row : Option Nat} {b : Nat} {o : Obj} (k : w.grownBy w' row) (hb : w.heap[b]? = some o) (hne : some b ≠ row) : w'.heap[b]? = some o :=
  (k.block b (Array.getElem?_eq_some_iff.1 hb).1 hne).trans hb
theorem blkX {w w' : World} {b : Nat} {o : Obj} (hb : w.heap[b]? = some o) (k : Ext w w') : w'.heap[b]? = some o :=
  (Below.block k b (Array.getElem?_eq_some_iff.1 hb).1).trans hb
theorem blkS {w : World} {b : Nat} {o : Obj} (hb : w.heap[b]? = some o) {p : Addr} (hp : b ≠ p.block) (v : Value) : (w.setCell p v).heap[b]? = some o :=
  (Below.heap_setCell w p v b hp).trans hb
theorem blk2D {w : World} {b : Nat} {x y : Value} {t : TypeId} (h : w.heap[b]? = some (.cells #[x, y] t)) : (w.cell? ⟨b, 0, none⟩ = some x ∧ w.cell? ⟨b, 1, none⟩ = some y) ∧ (w.frozen? ⟨b, 0, none⟩ = false ∧ w.frozen? ⟨b, 1, none⟩ = false) :=
  ⟨⟨(cell_of_block h 0).trans rfl, (cell_of_block h 1).trans rfl⟩, unfrozen_of_block h 0, unfrozen_of_block h 1⟩
theorem PRow.drawn {w w' : World} {lo hi g : Nat} {A : Option Addr} {n c : Nat} {ps : List (List Int × Int)} (h : PRow w lo hi A n c ps) (k : w.grownBy w' (some g)) (hg : g < lo) : PRow w' lo hi A n c ps :=
  h.held (Kept.of_grown (lo := g) (hi := g + 1) k (fun x hx => by cases hx; omega)) (.inr (by omega))
theorem Row.drawn {w w' : World} {lo hi g : Nat} {e : TypeId} {m : Nat} {A : Option Addr} {n c : Nat} {xs : List Int} (h : Row w lo hi e m A n c xs) (k : w.grownBy w' (some g)) (hg : g < lo) : Row w' lo hi e m A n c xs :=
  h.held (Kept.of_grown (lo := g) (hi := g + 1) k (fun x hx => by cases hx; omega)) (.inr (by omega))
theorem Outs.drawn {W w' : World} {b lo k g : Nat} {h : Int} {qs : List (List Int × Int)} {A : Option Addr} {c : Nat} (h0 : Outs W b lo h k qs A c) (hg : W.grownBy w' (some g)) (hlt : g < b) : Outs w' b lo h k qs A c := by
  have h1 := h0.lt
  have h2 := h0.le
  have hb : b < W.heap.size := by omega
  refine ⟨(grown_cell hg hb (by omega) 0).trans h0.c0, (grown_cell hg hb (by omega) 1).trans h0.c1, fun o => ?_, h1, Nat.le_trans h2 hg.size, (h0.P.drawn hg (by omega)).wide (Nat.le_refl _) hg.size⟩
  rw [World.frozen?_of_block (hg.block b hb (by intro e; cases e; omega))]
  exact h0.fz o
/-- What is known of a drawn routine's first k parts. -/
def RouOk (ps : List (List Int × Int)) (k : Nat) : Prop := ps.length = k ∧ ∀ i, i < k → thr (pt ps i) = true ∧ (pt ps i).length ≤ 5 ∧ 1 ≤ tm ps i ∧ tm ps i ≤ 4
theorem RouOk.push {ps : List (List Int × Int)} {k : Nat} (h : RouOk ps k) {xs : List Int} {t : Int} (h1 : thr xs = true) (h2 : xs.length ≤ 5) (h3 : 1 ≤ t ∧ t ≤ 4) : RouOk (ps ++ [(xs, t)]) (k + 1) := by
  refine ⟨by simp [h.1], fun i hi => ?_⟩
  by_cases e : i = k
  · subst e
    have e1 : pt (ps ++ [(xs, t)]) i = xs := by unfold pt; simp [h.1]
    have e2 : tm (ps ++ [(xs, t)]) i = t := by unfold tm; simp [h.1]
    rw [e1, e2]
    exact ⟨h1, h2, h3⟩
  · have hi' : i < ps.length := by rw [h.1]; omega
    have e1 : pt (ps ++ [(xs, t)]) i = pt ps i := by unfold pt; rw [List.getElem?_append_left hi']
    have e2 : tm (ps ++ [(xs, t)]) i = tm ps i := by unfold tm; rw [List.getElem?_append_left hi']
    rw [e1, e2]
    exact h.2 i (by omega)
theorem RouOk.bd {ps : List (List Int × Int)} {k : Nat} (h : RouOk ps k) : bdP ps := fun i hi => by
  rw [h.1] at hi
  obtain ⟨h1, h2, h3⟩ := h.2 i hi
  exact ⟨by omega, fun y hy => by have := thr_bd h1 y hy; omega, by omega, by omega⟩
/-- What is known of a drawn routine. -/
def DrawnRou (w0 w : World) (g : Nat) (A : Option Addr) (n c : Nat) (xs : List Int) (top most : Nat) (e : Ending) (w' : World) : Prop :=
  ∃ (A1 : Option Addr) (k c1 : Nat) (h : Int) (ps : List (List Int × Int)), e = .returned (.agg #[.int .i64 h, .slice A1 k c1]) ∧ PRow w' w.heap.size w'.heap.size A1 k c1 ps ∧ RouOk ps k ∧ (1 ≤ k ∧ k ≤ most) ∧ (8 ≤ h ∧ h ≤ 9) ∧ Srd w0 w' g A n c xs top ∧ w.grownBy w' (some g)
set_option maxHeartbeats 8000000 in
set_option maxRecDepth 100000 in
theorem l19Draw_any (q : Nat) (w0 w : World) (g : Nat) (A : Option Addr) (n c : Nat) (xs : List Int) (top : Nat) (h : Srd w0 w g A n c xs top) (ht : top ≤ 800000000) (hq : 1 ≤ q ∧ q ≤ 8) :
    Calls Tryd.prog 40 #[.pointer (some ⟨g, 0, none⟩), .int .i64 q] w (DrawnRou w0 w g A n c xs (top + 1000) q) := by
  have hlt := h.lt
  have hRB := heap_alloc_new w (.cells #[.int .i64 0, .slice none 0 0] 29)
  have h1 := h.after (show Ext w (w.alloc (.cells #[.int .i64 0, .slice none 0 0] 29)) from (Ext.refl _).alloc _)
  have g1 := grown_new (World.grownBy.refl w (some g)) (.cells #[.int .i64 0, .slice none 0 0] 29)
  go_enter Tryd.func40, Tryd.ntmps40
  go_wp2_with fail
  (with_reducible refine (pick_any 3 w0 _ g A n c xs top h1 (by omega)).mono ?_)
  rintro e w1 ⟨x, rfl, hx, hs1, hg1⟩
  have hR1 := blkG hg1 hRB (by intro e; cases e; omega)
  have G1 := grown_trans g1 hg1
  have hz1 := hg1.size
  simp at hz1
  obtain ⟨pr, hpr⟩ : ∃ pr, 2 + x = pr := ⟨_, rfl⟩
  have hpr4 : 2 ≤ pr ∧ pr ≤ 4 := by omega
  have hpw : IntKind.i64.wrap (2 + x) = pr := by rw [hpr]; exact IntWalk.i64_in _ (by omega)
  clear h1 g1 hRB hg1
  go_wp2_with fail
  (with_reducible refine (pick_any 2 w0 _ g A n c xs _ hs1 (by omega)).mono ?_)
  rintro e w2 ⟨y, rfl, hy, hs2, hg2⟩
  have hR2 := blkG hg2 hR1 (by intro e; cases e; omega)
  have G2 := grown_trans G1 hg2
  have hz2 := hg2.size
  obtain ⟨hh, hhh⟩ : ∃ hh, 8 + y = hh := ⟨_, rfl⟩
  have hh9 : 8 ≤ hh ∧ hh ≤ 9 := by omega
  have hhw : IntKind.i64.wrap (8 + y) = hh := by rw [hhh]; exact IntWalk.i64_in _ (by omega)
  have hO2 := heap_alloc_new w2 (.cells #[.int .i64 hh, .slice none 0 0] 29)
  have hs2' := hs2.after (show Ext w2 (w2.alloc (.cells #[.int .i64 hh, .slice none 0 0] 29)) from (Ext.refl _).alloc _)
  have G2' := grown_new G2 (.cells #[.int .i64 hh, .slice none 0 0] 29)
  have hR2' := blkX hR2 (show Ext w2 (w2.alloc (.cells #[.int .i64 hh, .slice none 0 0] 29)) from (Ext.refl _).alloc _)
  have hO2' : Outs (w2.alloc (.cells #[.int .i64 hh, .slice none 0 0] 29)) w2.heap.size (w2.heap.size + 1) hh 0 [] none 0 := ⟨(blk2D hO2).1.1, (blk2D hO2).1.2, fun o => unfrozen_of_block hO2 o, Nat.lt_succ_self _, by simp, PRow.nil _ _ _⟩
  clear hs1 hs2 hg2 hR1 hR2 hO2 G1
  go_wp2_with fail
  (with_reducible refine (pick_any q w0 _ g A n c xs _ hs2' (by omega)).mono ?_)
  rintro e w3 ⟨z, rfl, hz, hs3, hg3⟩
  have hO3 := hO2'.drawn hg3 (by omega)
  have hR3 := blkG hg3 hR2' (by intro e; cases e; omega)
  have G3 := grown_trans G2' hg3
  obtain ⟨r, hr⟩ : ∃ r : Nat, 1 + z = r := ⟨(1 + z).toNat, by omega⟩
  have hrq : 1 ≤ r ∧ r ≤ q := by omega
  have hrw : IntKind.i64.wrap (1 + z) = r := by rw [hr]; exact IntWalk.i64_in _ (by omega)
  clear hs2' hg3 hR2' hO2' G2 G2'
  go_wp2
  go_loopw [7] (fun i wr => ∃ (k : Nat) (ps : List (List Int × Int)) (A1 : Option Addr) (c1 : Nat), k ≤ r ∧ i = .int .i64 ((r : Int) - k) ∧ Hid (Outs wr w2.heap.size (w2.heap.size + 1) hh k ps A1 c1 ∧ wr.heap[w.heap.size]? = some (.cells #[.int .i64 0, .slice none 0 0] 29) ∧ Srd w0 wr g A n c xs (top + 20 + 60 * k) ∧ w.grownBy wr (some g) ∧ RouOk ps k)) (fun i _ => (intOf i).toNat)
  case atStart => exact ⟨0, [], none, 0, Nat.zero_le _, (by simp [hr]), hO3, hR3, hs3.more (by omega), G3, rfl, fun i hi => absurd hi (Nat.not_lt_zero _)⟩
  case round =>
    obtain ⟨k, ps, A1, c1, hk, rfl, HI⟩ := hrel
    obtain ⟨hO, hR, hS, hG, hok⟩ := HI.out
    clear hO3 hR3 hs3 G3 HI
    have hle := hO.le
    by_cases hlt2 : k < r
    · have hki : (0 : Int) < (r : Int) - k := by omega
      have HOK := Lib.hid hok
      clear hok
      go_wp2_with fail
      (with_reducible refine (l19Pattern_any pr w0 _ g A n c xs _ hS (by omega) (by omega)).mono ?_)
      rintro e w4 ⟨B, d, ys, rfl, hown, hthr, hyl, hs4, hg4⟩
      have R4 : Row w4 wr.heap.size w4.heap.size 2 1 B ys.length d ys := ⟨hown, fun a ha => (World.ownsRow.lt hown a.block (by rw [ha]; rfl)).2⟩
      have hO4 := hO.drawn hg4 (by omega)
      have P4 := hO.P.drawn hg4 (by omega)
      have hR4 := blkG hg4 hR (by intro e; cases e; omega)
      have G4 := grown_trans hG hg4
      have hz4 := hg4.size
      have hgl : g < w2.heap.size := by omega
      have oc1 := hO4.c1
      have HTHR := Lib.hid hthr
      have HO4 := Lib.hid hO4
      have HP4 := Lib.hid P4
      have HR4 := Lib.hid hR4
      have HG4 := Lib.hid G4
      have HRW := Lib.hid R4
      have HS4 := Lib.hid hs4
      have hne1 : ∀ cc ∈ ([(⟨w2.heap.size, 1, none⟩, .slice A1 k c1)] : List (Addr × Value)), some cc.1.block ≠ some g := by
        intro cc hcc e
        simp only [List.mem_cons, List.not_mem_nil, or_false] at hcc
        subst hcc
        injection e with e
        have : w2.heap.size = g := e
        omega
      have hne2 : ∀ cc ∈ ([(⟨w2.heap.size, 1, none⟩, .slice A1 k c1)] : List (Addr × Value)), some cc.1.block ≠ A1.map (·.block) := by
        obtain ⟨H, hF⟩ := hO.P.rows
        obtain ⟨cs, hr', _⟩ := hF.row
        intro cc hcc e
        have hrb := hr'.row_bd _ e.symm
        simp only [List.mem_cons, List.not_mem_nil, or_false] at hcc
        subst hcc
        have : w2.heap.size + 1 ≤ w2.heap.size := hrb.1
        omega
      have hrowA : ∀ b, A1.map (·.block) = some b → w2.heap.size + 1 ≤ b := by
        obtain ⟨H, hF⟩ := hO.P.rows
        obtain ⟨cs, hr', _⟩ := hF.row
        intro b hb
        exact (hr'.row_bd _ hb).1
      have HNE1 := Lib.hid hne1
      have HNE2 := Lib.hid hne2
      have HRA := Lib.hid hrowA
      clear hthr hO4 P4 hR4 G4 R4 hs4 hown hO hR hS hG hg4 hne1 hne2 hrowA
      go_upto_region 7 with fail
      refine wp_region_late 10 1 8 (Holds [(⟨w2.heap.size, 1, none⟩, .slice A1 k c1)]) rfl (by kernel_rfl) (by kernel_rfl) (by (simp only [Holds_cons, Holds_nil, and_true]); exact oc1) (fun hHeld => ?_)
      refine wpAnyH_take (i := 0) (v := ?_) rfl (by kernel_rfl) (by kernel_rfl) (by kernel_rfl) (fun _ _ _ h => h) (Or.inl ⟨by rfl, ?hyh1⟩) hHeld ?_
      case hyh1 => ((intro wz hSw); (simp only [Holds_cons, Holds_nil, and_true] at hSw); (have hSw1 := hSw); go_simp; (try with_reducible rfl))
      (try simp only [List.getElem_toArray, List.getElem_cons_succ, List.getElem_cons_zero, Act.put, List.setIfInBounds_toArray, List.set_cons_zero, List.set_cons_succ])
      refine wpAnyH_take (i := 1) (v := ?_) rfl (by kernel_rfl) (by kernel_rfl) (by kernel_rfl) (fun _ _ _ h => h) (Or.inl ⟨by rfl, ?hyh2⟩) hHeld ?_
      case hyh2 => ((intro wz hSw); (simp only [Holds_cons, Holds_nil, and_true] at hSw); (have hSw1 := hSw); go_simp; (try with_reducible rfl))
      (try simp only [List.getElem_toArray, List.getElem_cons_succ, List.getElem_cons_zero, Act.put, List.setIfInBounds_toArray, List.set_cons_zero, List.set_cons_succ])
      refine wpAnyH_take (i := 2) (v := ?_) rfl (by kernel_rfl) (by kernel_rfl) (by kernel_rfl) (fun _ _ _ h => h) (Or.inl ⟨by rfl, ?hyh3⟩) hHeld ?_
      case hyh3 => ((intro wz hSw); (simp only [Holds_cons, Holds_nil, and_true] at hSw); (have hSw1 := hSw); go_simp; (try with_reducible rfl))
      (try simp only [List.getElem_toArray, List.getElem_cons_succ, List.getElem_cons_zero, Act.put, List.setIfInBounds_toArray, List.set_cons_zero, List.set_cons_succ])
      refine wpAnyH_take (i := 3) (v := ?_) rfl (by kernel_rfl) (by kernel_rfl) (by kernel_rfl) (fun _ _ _ h => h) (Or.inl ⟨by rfl, ?hyh4⟩) hHeld ?_
      case hyh4 => ((intro wz hSw); (simp only [Holds_cons, Holds_nil, and_true] at hSw); (have hSw1 := hSw); go_simp; (try with_reducible rfl))
      (try simp only [List.getElem_toArray, List.getElem_cons_succ, List.getElem_cons_zero, Act.put, List.setIfInBounds_toArray, List.set_cons_zero, List.set_cons_succ])
      refine wpAnyH_ready (rs := [4]) (by kernel_rfl) (by simp) ?_
      refine AllReadyH.cons rfl (fun K hK => ?_) AllReadyH.nil
      go_simp
      (with_reducible refine (pick_any 4 w0 _ g A n c xs _ (HS4.out.after (by with_reducible (repeat (first | exact Ext.refl _ | apply Ext.drewN | apply Ext.drew | apply Ext.alloc | (refine Ext.set ?_ (by first | (simp; done) | (simp; omega) | omega) _) | (refine Ext.trans ?_ (by assumption)))))) (by omega)).mono ?_)
      rintro e w5 ⟨t, rfl, ht4, hs5, hg5⟩
      have htw : IntKind.i64.wrap (1 + t) = 1 + t := IntWalk.i64_in _ (by omega)
      have ht5 : 1 ≤ 1 + t ∧ 1 + t ≤ 4 := by omega
      (try go_wp2_with fail)
      have hg5d : w4.grownBy w5 (some g) := ⟨hg5.os, hg5.tape, hg5.output, hg5.size, hg5.block⟩
      have hz5 := hg5d.size
      refine hK.out _ _ (HoldsD hHeld hg5 HNE1.out) (fun hHeldN => ?_)
      clear hK K hHeld
      have hHeld := hHeldN
      clear hHeldN
      (try simp only [List.getElem_toArray, List.getElem_cons_succ, List.getElem_cons_zero, Act.put, List.setIfInBounds_toArray, List.set_cons_zero, List.set_cons_succ])
      refine wpAnyH_take (i := 5) (v := ?_) rfl (by kernel_rfl) (by kernel_rfl) (by kernel_rfl) (fun _ _ _ h => h) (Or.inl ⟨by rfl, ?hyh5⟩) hHeld ?_
      case hyh5 => ((intro wz hSw); (simp only [Holds_cons, Holds_nil, and_true] at hSw); (have hSw1 := hSw); go_simp; (try with_reducible rfl))
      (try simp only [List.getElem_toArray, List.getElem_cons_succ, List.getElem_cons_zero, Act.put, List.setIfInBounds_toArray, List.set_cons_zero, List.set_cons_succ])
      refine wpAnyH_take (i := 6) (v := ?_) rfl (by kernel_rfl) (by kernel_rfl) (by kernel_rfl) (fun _ _ _ h => h) (Or.inl ⟨by rfl, ?hyh6⟩) hHeld ?_
      case hyh6 => ((intro wz hSw); (simp only [Holds_cons, Holds_nil, and_true] at hSw); (have hSw1 := hSw); go_simp; (try with_reducible rfl))
      (try simp only [List.getElem_toArray, List.getElem_cons_succ, List.getElem_cons_zero, Act.put, List.setIfInBounds_toArray, List.set_cons_zero, List.set_cons_succ])
      refine wpAnyH_ready (rs := [7]) (by kernel_rfl) (by simp) ?_
      refine AllReadyH.cons rfl (fun K hK => ?_) AllReadyH.nil
      go_simp
      refine hK.out _ _ (Holds.alloc hHeld _) (fun hHeldN => ?_)
      clear hK K hHeld
      have hHeld := hHeldN
      clear hHeldN
      (try simp only [List.getElem_toArray, List.getElem_cons_succ, List.getElem_cons_zero, Act.put, List.setIfInBounds_toArray, List.set_cons_zero, List.set_cons_succ])
      refine wpAnyH_ready (rs := [8]) (by kernel_rfl) (by simp) ?_
      refine AllReadyH.cons rfl (fun K hK => ?_) AllReadyH.nil
      have hpa : Ext w5 (w5.alloc (.cells #[.slice B ys.length d, .int .i64 (1 + t)] 52)) := (Ext.refl _).alloc _
      have HPW := Lib.hid ((HP4.out.drawn hg5d (by omega)).ext hpa)
      have RW := Lib.hid ((HRW.out.drawn hg5d (by omega)).ext hpa)
      have HOW := Lib.hid ((HO4.out.drawn hg5d (by omega)).ext hpa)
      refine stepP (by rfl) _ _ (by rfl) (by rfl) HPW.out (by omega) (by rfl) (heap_alloc_new _ _) (by rfl) RW.out rfl (by omega) (by first | (simp; done) | (simp; omega) | omega) (by omega) (by omega) ?_
      intro A3 c3 w6 P3 hg3
      obtain ⟨v1, v2, v3⟩ := HOW.out.push P3 hg3
      have hKeep := HoldsD hHeld hg3 HNE2.out
      refine hK.out _ _ (hKeep) (fun hHeldN => ?_)
      clear hK K hHeld
      have hHeld := hHeldN
      clear hHeldN
      (try simp only [List.getElem_toArray, List.getElem_cons_succ, List.getElem_cons_zero, Act.put, List.setIfInBounds_toArray, List.set_cons_zero, List.set_cons_succ])
      refine wpAnyH_take (i := 9) (v := ?_) rfl (by kernel_rfl) (by kernel_rfl) (by kernel_rfl) (fun _ _ _ h => h) (Or.inl ⟨by rfl, ?hyh7⟩) hHeld ?_
      case hyh7 => ((intro wz hSw); (simp only [Holds_cons, Holds_nil, and_true] at hSw); (have hSw1 := hSw); go_simp; (try with_reducible rfl))
      (try simp only [List.getElem_toArray, List.getElem_cons_succ, List.getElem_cons_zero, Act.put, List.setIfInBounds_toArray, List.set_cons_zero, List.set_cons_succ])
      refine wpAnyH_done (by kernel_rfl) ?_ _
      refine LateQ.normal ?_
      refine wpAny_ready (rs := [10]) (by kernel_rfl) (by simp) ?_
      refine AllReady.cons rfl (fun K hK => ?_) AllReady.nil
      go_simp
      (try (refine hK _ _ ?_; clear hK K))
      (try simp only [List.getElem_toArray, List.getElem_cons_succ, List.getElem_cons_zero, Act.put, List.setIfInBounds_toArray, List.set_cons_zero, List.set_cons_succ])
      refine wpAny_done (by kernel_rfl) ?_ _
      have hs6 := ((hs5.after hpa).own hg3 (fun b hb => by have := HRA.out b hb; omega)).put (p := ⟨w2.heap.size, 1, none⟩) hgl (.slice A3 (k + 1) c3)
      have G6 := grown_put (grown_own (grown_exts (grown_trans HG4.out hg5d) hpa) hg3 (fun b hb => by have := HRA.out b hb; omega)) (p := ⟨w2.heap.size, 1, none⟩) (by show w.heap.size ≤ w2.heap.size; omega) (.slice A3 (k + 1) c3)
      have hR6 := blkS (blkG hg3 (blkX (blkG hg5d HR4.out (by intro e; cases e; omega)) hpa) (by intro e; have := HRA.out _ e.symm; omega)) (p := ⟨w2.heap.size, 1, none⟩) (by show w.heap.size ≠ w2.heap.size; omega) (.slice A3 (k + 1) c3)
      have HN : Hid (Outs (w6.setCell ⟨w2.heap.size, 1, none⟩ (.slice A3 (k + 1) c3)) w2.heap.size (w2.heap.size + 1) hh (k + 1) (ps ++ [(ys, 1 + t)]) A3 c3 ∧ (w6.setCell ⟨w2.heap.size, 1, none⟩ (.slice A3 (k + 1) c3)).heap[w.heap.size]? = some (.cells #[.int .i64 0, .slice none 0 0] 29) ∧ Srd w0 (w6.setCell ⟨w2.heap.size, 1, none⟩ (.slice A3 (k + 1) c3)) g A n c xs (top + 20 + 60 * (k + 1)) ∧ w.grownBy (w6.setCell ⟨w2.heap.size, 1, none⟩ (.slice A3 (k + 1) c3)) (some g) ∧ RouOk (ps ++ [(ys, 1 + t)]) (k + 1)) := ⟨v3, hR6, hs6.more (by omega), G6, HOK.out.push HTHR.out hyl ht5⟩
      clear hs6 G6 hR6 v1 v2 v3 P3 hg3 hg5 hg5d hs5 HPW RW HOW hHeld
      go_wp2
      go_roundw
      case rel => exact ⟨k + 1, _, A3, c3, by omega, by go_num, HN.out⟩
      case measure => simp [intOf]; omega
    · obtain rfl : k = r := by omega
      have hkz : (k : Int) - k = 0 := by omega
      have oc0 := hO.c0
      have oc1 := hO.c1
      have hgl : w2.heap.size < wr.heap.size := hle
      obtain ⟨⟨x0, x1⟩, f0, f1⟩ := blk2D hR
      have hwz : w.heap.size < w2.heap.size + 1 := by omega
      have HF : Hid (∀ u v : Value, DrawnRou w0 w g A n c xs (top + 1000) q (.returned (.agg #[.int .i64 hh, .slice A1 k c1])) ((wr.setCell ⟨w.heap.size, 0, none⟩ u).setCell ⟨w.heap.size, 1, none⟩ v)) := fun u v => by
        refine ⟨A1, k, c1, hh, ps, rfl, ?_, hok, hrq, hh9, (((hS.put (p := ⟨w.heap.size, 0, none⟩) hlt u).put (p := ⟨w.heap.size, 1, none⟩) hlt v).more (by omega)), grown_put (grown_put hG (p := ⟨w.heap.size, 0, none⟩) (Nat.le_refl _) u) (p := ⟨w.heap.size, 1, none⟩) (Nat.le_refl _) v⟩
        have h7 := ((hO.P.far (p := ⟨w.heap.size, 0, none⟩) (.inl hwz) u).far (p := ⟨w.heap.size, 1, none⟩) (.inl hwz) v)
        exact h7.wide (by omega) (by simp [World.setCell])
      clear hO hR hS hG hok
      go_wp2
      exact bodyPost_ret (v := .agg #[.int .i64 hh, .slice A1 k c1]) (by simp [results, Tryd.results40, go_sem, *]) rfl (HF.out _ _)
end Go.Proofs.YtinkaglngblddaaDoor
