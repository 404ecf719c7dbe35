/- Passing patterns: RotatePassing of the program. No condition but the stated bounds. -/
import Derived.Test.YtlalaomimfdepaaPsd7
import Derived.Test.YtlalaomimfdepaaLate
namespace Go.Proofs.Ytlalaomimfdepaa
set_option linter.unusedVariables false
set_option linter.unusedSimpArgs false
open Go.ChangeShapes Go.WideShapes Go.ChangeAt Go.RowKit Go.Joins Go.Deep

/-- Two lists that grow behind lo; the box OB tells what they were. -/
structure RLq (w wr : World) (OB lo j k : Nat) (a b v1 v2 : Value) (la lb : List (Int × Bool)) : Prop where
  k0 : wr.cell? ⟨OB, 0, none⟩ = some a
  k1 : wr.cell? ⟨OB, 1, none⟩ = some b
  f : ∀ o, wr.frozen? ⟨OB, o, none⟩ = false
  oa : wr.ownsRow lo 54 2 v1 j (flT la)
  ob : wr.ownsRow lo 54 2 v2 k (flT lb)
  ne : ∀ q, v1.ownBlock = some q → v2.ownBlock ≠ some q
  ll : OB < lo
  gt : w.heap.size ≤ OB
  sz : lo ≤ wr.heap.size
  X : Ext w wr
section
variable {w wr W w' : World} {OB lo j k : Nat} {a b v1 v2 v' : Value} {la lb lc : List (Int × Bool)}
theorem RLp.q (h : RLp w wr OB lo j k a b la lb) : RLq w wr OB lo j k a b a b la lb := ⟨h.k0, h.k1, h.f, h.oa, h.ob, h.ne, h.ll, h.gt, h.sz, h.X⟩
theorem RLq.mid (h : RLq w wr OB lo j k a b v1 v2 la lb) {v : Value} {m : Nat} {ws : List Value} (hx : Ext wr W) (hv : wr.ownsRow lo 54 2 v m ws) (q : W.grownBy w' v.ownBlock) :
    (w'.cell? ⟨OB, 0, none⟩ = some a ∧ w'.cell? ⟨OB, 1, none⟩ = some b) ∧ ((∀ i, w'.frozen? ⟨OB, i, none⟩ = false) ∧ lo ≤ w'.heap.size) ∧ Ext w w' := by
  have hl := h.ll
  have hsz := h.sz
  have hz := hx.size
  have hlo : ∀ b, v.ownBlock = some b → lo ≤ b := fun b hb => (World.ownsRow.lt hv b hb).1
  have e : ∀ b, b < lo → ∀ i, w'.cell? ⟨b, i, none⟩ = wr.cell? ⟨b, i, none⟩ ∧ w'.frozen? ⟨b, i, none⟩ = wr.frozen? ⟨b, i, none⟩ := fun b hb i => by
    have h1 := own_cellB q (b := b) (by omega) (fun e => by have := hlo b e.symm; omega) i
    exact ⟨h1.1.trans (hx.cells.1 b i (by omega)), h1.2.trans (hx.cells.2 b i (by omega))⟩
  exact ⟨⟨(e _ hl 0).1.trans h.k0, (e _ hl 1).1.trans h.k1⟩, ⟨fun i => (e _ hl i).2.trans (h.f i), by have := q.size; omega⟩, (h.X.trans hx).grown q (fun x hx => by have := hlo x hx; have := h.gt; omega)⟩
theorem RLq.appA (h : RLq w wr OB lo j k a b v1 v2 la lb) (hx : Ext wr W) (ho : w'.ownsRow lo 54 2 v' (j + 1) (flT lc)) (q : W.grownBy w' v1.ownBlock) (hv : v'.ownBlock = v1.ownBlock ∨ v'.ownBlock = some W.heap.size) :
    RLq w w' OB lo (j + 1) k a b v' v2 lc lb := by
  obtain ⟨⟨m0, m1⟩, ⟨mf, ms⟩, mX⟩ := h.mid hx h.oa q
  have hz := hx.size
  refine ⟨m0, m1, mf, ho, own_far (own_ext h.ob hx) q (fun x hx hb => h.ne x hx hb), fun x hx hb => ?_, h.ll, h.gt, ms, mX⟩
  rcases hv with hv | hv
  · exact h.ne x (hv ▸ hx) hb
  · have h1 := (World.ownsRow.lt h.ob x hb).2
    rw [hv] at hx
    cases hx
    omega
theorem RLq.appB (h : RLq w wr OB lo j k a b v1 v2 la lb) (hx : Ext wr W) (ho : w'.ownsRow lo 54 2 v' (k + 1) (flT lc)) (q : W.grownBy w' v2.ownBlock) (hv : v'.ownBlock = v2.ownBlock ∨ v'.ownBlock = some W.heap.size) :
    RLq w w' OB lo j (k + 1) a b v1 v' la lc := by
  obtain ⟨⟨m0, m1⟩, ⟨mf, ms⟩, mX⟩ := h.mid hx h.ob q
  have hz := hx.size
  refine ⟨m0, m1, mf, own_far (own_ext h.oa hx) q (fun x hx hb => h.ne x hb hx), ho, fun x hx hb => ?_, h.ll, h.gt, ms, mX⟩
  rcases hv with hv | hv
  · exact h.ne x hx (hv ▸ hb)
  · have h1 := (World.ownsRow.lt h.oa x hx).2
    rw [hv] at hb
    cases hb
    omega
theorem RLq.fin (h : RLq w wr OB lo j k a b v1 v2 la lb) : RLp w ((wr.setCell ⟨OB, 0, none⟩ v1).setCell ⟨OB, 1, none⟩ v2) OB lo j k v1 v2 la lb := by
  have hl := h.ll
  have own : ∀ {v : Value} {m : Nat} {ws : List Value}, wr.ownsRow lo 54 2 v m ws → ((wr.setCell ⟨OB, 0, none⟩ v1).setCell ⟨OB, 1, none⟩ v2).ownsRow lo 54 2 v m ws := fun ho => own_far (own_far ho (only_setCell (World.grownBy.refl wr (some OB)) (p := ⟨OB, 0, none⟩) rfl v1) (fun x hx hb => by cases hx; have := (World.ownsRow.lt ho _ hb).1; omega)) (only_setCell (World.grownBy.refl _ (some OB)) (p := ⟨OB, 1, none⟩) rfl v2) (fun x hx hb => by cases hx; have := (World.ownsRow.lt ho _ hb).1; omega)
  refine ⟨?_, ?_, fun i => by rw [World.frozen?_setCell, World.frozen?_setCell]; exact h.f i, own h.oa, own h.ob, h.ne, hl, h.gt, by simpa [World.setCell] using h.sz, (h.X.set h.gt _).set h.gt _⟩
  · rw [World.cell?_setCell_other _ _ _ _ (fun e => by cases e)]
    exact World.cell?_setCell_same _ _ _ h.k0
  · have hq1 : (wr.setCell ⟨OB, 0, none⟩ v1).cell? ⟨OB, 1, none⟩ = some b := by rw [World.cell?_setCell_other _ _ _ _ (fun e => by cases e)]; exact h.k1
    exact World.cell?_setCell_same _ _ _ hq1
end
theorem Holds.lowgr {cs : List (Addr × Value)} {lo m n : Nat} {e : TypeId} {v : Value} {ws : List Value} {wr W w' : World} (h : Holds cs W) (hb : ∀ c ∈ cs, c.1.block < lo) (hx : Ext wr W) (hv : wr.ownsRow lo e m v n ws) (q : W.grownBy w' v.ownBlock) (hlo : lo ≤ wr.heap.size) : Holds cs w' :=
  h.same fun c hc => World.cell?_of_block (q.block _ (Nat.lt_of_lt_of_le (hb c hc) (Nat.le_trans hlo hx.size)) (fun e => by have h1 := (World.ownsRow.lt hv _ e.symm).1; have h2 := hb c hc; omega))
theorem heap_two (w : World) (o o' : Obj) : ((w.alloc o).alloc o').heap[w.heap.size + 1]? = some o' := by
  have h := heap_alloc_new (w.alloc o) o'
  rwa [World.size_alloc] at h
theorem heap_first (w : World) (o o' : Obj) : ((w.alloc o).alloc o').heap[w.heap.size]? = some o := blk_ext (heap_alloc_new w o) ((Ext.refl _).alloc o')
theorem grown_blk {W w' : World} {row : Option Nat} {b : Nat} {o : Obj} (k : W.grownBy w' row) (hb : W.heap[b]? = some o) (hne : some b ≠ row) : w'.heap[b]? = some o :=
  (k.block b (Array.getElem?_eq_some_iff.1 hb).1 hne).trans hb
theorem isBeatP_is (t : Int) (v : Bool) (h : btw t (-1000000) 1000000 = v) (w : World) :
    Calls Try.prog 40 #[.int .i64 t] w fun e w' => e = .returned (.bool v) ∧ w = w' := by
  go_enter Try.func40, Try.ntmps40
  go_wp2_with (first | (go_at_call 34; (with_reducible refine (between_is t (-1000000) 1000000 v h _).mono ?_); rintro e w' ⟨rfl, rfl⟩))
  go_ret
  exact ⟨rfl, rfl⟩
set_option maxHeartbeats 8000000 in
set_option maxRecDepth 100000 in
theorem implRotate_any (A B : Option Addr) (n c m d : Nat) (ts us : List (Int × Bool)) (by_ : Int) (w : World) (hI : Thr w A n ts) (hJ : Thr w B m us) (hby : -2000000 ≤ by_ ∧ by_ ≤ 2000000) :
    Calls Try.prog 19 #[.agg #[.slice A n c, .slice B m d], .int .i64 by_] w (RetTh w (rtp ts us by_).1 (rtp ts us by_).2.1 (rtp ts us by_).2.2) := by
  have hbx : PBox ((w.alloc (.cells #[.slice A n c, .slice B m d] 28)).alloc (.cells #[.slice none 0 0, .slice none 0 0] 28)) w.heap.size A n c B m d := (⟨by simp, (blk2 (heap_alloc_new w _)).1.1, (blk2 (heap_alloc_new w _)).1.2⟩ : PBox (w.alloc (.cells #[.slice A n c, .slice B m d] 28)) w.heap.size A n c B m d).ext ((Ext.refl _).alloc _)
  have hPB := blk_ext (heap_alloc_new w (.cells #[.slice A n c, .slice B m d] 28)) ((Ext.refl _).alloc (.cells #[.slice none 0 0, .slice none 0 0] 28))
  have hRB := heap_alloc_new (w.alloc (.cells #[.slice A n c, .slice B m d] 28)) (.cells #[.slice none 0 0, .slice none 0 0] 28)
  rw [World.size_alloc] at hRB
  cases hv : vpas ts us
  · have HX : Hid (rtp ts us by_ = ([], [], 1)) := by show _ = _; simp [rtp, hv]
    rw [HX.out]
    go_enter Try.func19, Try.ntmps19
    go_wp2_with fail
    (with_reducible refine (ValidPassing_any A B n c m d ts us _ (hI.ext (by with_reducible (repeat (first | exact Ext.refl _ | apply Ext.drewN | apply Ext.drew | apply Ext.alloc | (refine Ext.set ?_ (by first | (simp; done) | (simp; omega) | omega) _) | (refine Ext.trans ?_ (by assumption)))))) (hJ.ext (by with_reducible (repeat (first | exact Ext.refl _ | apply Ext.drewN | apply Ext.drew | apply Ext.alloc | (refine Ext.set ?_ (by first | (simp; done) | (simp; omega) | omega) _) | (refine Ext.trans ?_ (by assumption))))))).mono ?_)
    rw [hv]
    rintro e w1 ⟨rfl, hx1⟩
    have hR1 := blk_ext hRB hx1
    obtain ⟨⟨r0, r1⟩, s0, s1⟩ := blk2 hR1
    have HE : Hid (Ext w w1) := Ext.trans (by with_reducible (repeat (first | exact Ext.refl _ | apply Ext.drewN | apply Ext.drew | apply Ext.alloc | (refine Ext.set ?_ (by first | (simp; done) | (simp; omega) | omega) _) | (refine Ext.trans ?_ (by assumption))))) hx1
    clear hx1 hR1 hRB hPB hbx hI hJ
    go_wp2
    refine bodyPost_ret (v := .tuple #[.agg #[.slice none 0 0, .slice none 0 0], .int .i64 1]) (by simp [results, Try.results19, go_sem, *]) rfl ⟨none, 0, 0, none, 0, 0, rfl, Thr.nil _ _, Thr.nil _ _, ?_⟩
    (repeat (refine Ext.set ?_ (by show w.heap.size ≤ w.heap.size + 1; omega) _))
    exact HE.out
  cases hb : btw by_ (-1000000) 1000000
  · have HX : Hid (rtp ts us by_ = ([], [], 2)) := by show _ = _; simp [rtp, hv, hb]
    rw [HX.out]
    go_enter Try.func19, Try.ntmps19
    go_wp2_with fail
    (with_reducible refine (ValidPassing_any A B n c m d ts us _ (hI.ext (by with_reducible (repeat (first | exact Ext.refl _ | apply Ext.drewN | apply Ext.drew | apply Ext.alloc | (refine Ext.set ?_ (by first | (simp; done) | (simp; omega) | omega) _) | (refine Ext.trans ?_ (by assumption)))))) (hJ.ext (by with_reducible (repeat (first | exact Ext.refl _ | apply Ext.drewN | apply Ext.drew | apply Ext.alloc | (refine Ext.set ?_ (by first | (simp; done) | (simp; omega) | omega) _) | (refine Ext.trans ?_ (by assumption))))))).mono ?_)
    rw [hv]
    rintro e w1 ⟨rfl, hx1⟩
    have hR1 := blk_ext hRB hx1
    obtain ⟨⟨r0, r1⟩, s0, s1⟩ := blk2 hR1
    have HE : Hid (Ext w w1) := Ext.trans (by with_reducible (repeat (first | exact Ext.refl _ | apply Ext.drewN | apply Ext.drew | apply Ext.alloc | (refine Ext.set ?_ (by first | (simp; done) | (simp; omega) | omega) _) | (refine Ext.trans ?_ (by assumption))))) hx1
    have HB := Lib.hid hb
    clear hx1 hR1 hRB hPB hbx hI hJ hb
    go_wp2_with (first | (go_at_call 40; (with_reducible refine (isBeatP_is by_ false HB.out _).mono ?_); rintro e w' ⟨rfl, rfl⟩))
    refine bodyPost_ret (v := .tuple #[.agg #[.slice none 0 0, .slice none 0 0], .int .i64 2]) (by simp [results, Try.results19, go_sem, *]) rfl ⟨none, 0, 0, none, 0, 0, rfl, Thr.nil _ _, Thr.nil _ _, ?_⟩
    (repeat (refine Ext.set ?_ (by show w.heap.size ≤ w.heap.size + 1; omega) _))
    exact HE.out
  · obtain ⟨g1, g2, g3, g4, g5⟩ := vpas_parts hv
    have HX : Hid (rtp ts us by_ = (rtk ts by_ n, rtk us by_ n, 0)) := by show _ = _; simp only [rtp, hv, hb, if_true]; rw [g3, hI.len]
    rw [HX.out]
    have l1 := hI.len
    have l2 := hJ.len
    obtain rfl : m = n := by omega
    have hm8 : 1 ≤ m ∧ m ≤ 8 := by omega
    have HB := Lib.hid hb
    clear g1 g2 g3 g4 g5 hb
    go_enter Try.func19, Try.ntmps19
    go_wp2_with fail
    (with_reducible refine (ValidPassing_any A B m c m d ts us _ (hI.ext (by with_reducible (repeat (first | exact Ext.refl _ | apply Ext.drewN | apply Ext.drew | apply Ext.alloc | (refine Ext.set ?_ (by first | (simp; done) | (simp; omega) | omega) _) | (refine Ext.trans ?_ (by assumption)))))) (hJ.ext (by with_reducible (repeat (first | exact Ext.refl _ | apply Ext.drewN | apply Ext.drew | apply Ext.alloc | (refine Ext.set ?_ (by first | (simp; done) | (simp; omega) | omega) _) | (refine Ext.trans ?_ (by assumption))))))).mono ?_)
    rw [hv]
    rintro e w1 ⟨rfl, hx1⟩
    have hR1 := blk_ext hRB hx1
    have hP1 := blk_ext hPB hx1
    have hE1 : Ext w w1 := Ext.trans (by with_reducible (repeat (first | exact Ext.refl _ | apply Ext.drewN | apply Ext.drew | apply Ext.alloc | (refine Ext.set ?_ (by first | (simp; done) | (simp; omega) | omega) _) | (refine Ext.trans ?_ (by assumption))))) hx1
    have hz1 : w.heap.size + 1 < w1.heap.size := by have := hx1.size; simp at this; omega
    clear hx1 hRB hPB hbx hv
    obtain ⟨⟨q0, q1⟩, f0, f1⟩ := blk2 hP1
    have hO1 := heap_alloc_new w1 (.cells #[.slice none 0 0, .slice none 0 0] 28)
    have hL0 : Hid (RLp w1 (w1.alloc (.cells #[.slice none 0 0, .slice none 0 0] 28)) w1.heap.size (w1.heap.size + 1) 0 0 (.slice none 0 0) (.slice none 0 0) (rtk ts by_ 0) (rtk us by_ 0)) := ⟨(blk2 hO1).1.1, (blk2 hO1).1.2, unfrozen_of_block hO1, ⟨by simp [rtk, flT], .inl ⟨rfl, rfl⟩⟩, ⟨by simp [rtk, flT], .inl ⟨rfl, rfl⟩⟩, (fun x hx => (by cases hx)), by omega, Nat.le_refl _, by simp, (Ext.refl _).alloc _⟩
    have hI1 := hI.ext hE1
    have hJ1 := hJ.ext hE1
    clear hO1
    go_wp2_with (first | (go_at_call 40; (with_reducible refine (isBeatP_is by_ true HB.out _).mono ?_); rintro e w' ⟨rfl, rfl⟩))
    go_loopw [23] (fun i wr => ∃ (k : Nat) (a b : Value), k ≤ m ∧ i = .int .i64 k ∧ Hid (RLp w1 wr w1.heap.size (w1.heap.size + 1) k k a b (rtk ts by_ k) (rtk us by_ k))) (fun i _ => m - (intOf i).toNat)
    case atStart => exact ⟨0, _, _, by omega, rfl, hL0⟩
    case round =>
      obtain ⟨k, a, b, hk, rfl, h⟩ := hrel
      clear hL0 q0 q1 f0 f1
      have hPr := blk_ext hP1 h.out.X
      by_cases hlt : k < m
      · have hki : (k : Int) < m := by omega
        have hmm := Int.emod_nonneg ((k : Int) + by_) (show (m : Int) ≠ 0 by omega)
        have hmm2 := Int.emod_lt_of_pos ((k : Int) + by_) (show 0 < (m : Int) by omega)
        obtain ⟨p, hp⟩ : ∃ p : Nat, ((k : Int) + by_) % (m : Int) = p := ⟨_, (Int.toNat_of_nonneg hmm).symm⟩
        rw [hp] at hmm2
        have hpm : p < m := by omega
        have hpi : (p : Int) < m := by omega
        obtain ⟨b1, off1, eA, hb1, hcell1⟩ := hI1.at_ (by omega)
        obtain ⟨b2, off2, eB, hb2, hcell2⟩ := hJ1.at_ (by omega)
        obtain ⟨x1, x2⟩ := hcell1 p hpm
        obtain ⟨y1, y2⟩ := hcell2 p hpm
        have HXV : Hid (∀ W, Ext w1 W → W.cell? ⟨b1, off1 + p * 2, none⟩ = some (.int .i64 (tv ts p)) ∧ W.cell? ⟨b1, off1 + p * 2 + 1, none⟩ = some (.bool (tp ts p))) := fun W hx => ⟨hx.cell hb1 x1, hx.cell hb1 x2⟩
        have HYV : Hid (∀ W, Ext w1 W → W.cell? ⟨b2, off2 + p * 2, none⟩ = some (.int .i64 (tv us p)) ∧ W.cell? ⟨b2, off2 + p * 2 + 1, none⟩ = some (.bool (tp us p))) := fun W hx => ⟨hx.cell hb2 y1, hx.cell hb2 y2⟩
        clear x1 x2 y1 y2
        obtain ⟨x1, x2⟩ := HXV.out wr h.out.X
        have HS1 : Hid (rtk ts by_ (k + 1) = rtk ts by_ k ++ [(tv ts p, tp ts p)]) := by show _ = _; rw [rtk_succ]; unfold rti; rw [l1, hp]; rfl
        have HS2 : Hid (rtk us by_ (k + 1) = rtk us by_ k ++ [(tv us p, tp us p)]) := by show _ = _; rw [rtk_succ]; unfold rti; rw [l2, hp]; rfl
        have HP := Lib.hid hp
        clear hcell1 hcell2 hp
        subst eA eB
        obtain ⟨⟨q0, q1⟩, f0, f1⟩ := blk2 hPr
        have k0 := h.out.k0
        have k1 := h.out.k1
        have kf := h.out.f
        have ksz := h.out.sz
        have kl1 : w1.heap.size < wr.heap.size := by omega
        have kl2 : b1 < wr.heap.size := by omega
        have kl3 : w.heap.size < wr.heap.size := by omega
        have kl4 : b2 < wr.heap.size := by omega
        generalize tv ts p = xv at *
        generalize tp ts p = xp at *
        generalize tv us p = yv at *
        generalize tp us p = yp at *
        have hkw : IntKind.i64.wrap ((k : Int) + by_) = (k : Int) + by_ := IntWalk.i64_in _ (by omega)
        go_upto_region 11 with (first | (go_at_call 41; (with_reducible refine (modulo_is _ _ _ _ (by omega) (by omega) HP.out).mono ?_); rintro e w' ⟨rfl, rfl⟩))
        have hq := Lib.hid h.out.q
        obtain ⟨y1, y2⟩ := HYV.out wr h.out.X
        have hBl : ∀ cc ∈ (([(⟨w1.heap.size, 0, none⟩, a), (⟨w1.heap.size, 1, none⟩, b), (⟨w.heap.size, 0, none⟩, .slice (some ⟨b1, off1, none⟩) m c), (⟨w.heap.size, 1, none⟩, .slice (some ⟨b2, off2, none⟩) m d), (⟨b1, off1 + p * 2, none⟩, .int .i64 xv), (⟨b1, off1 + p * 2 + 1, none⟩, .bool xp), (⟨b2, off2 + p * 2, none⟩, .int .i64 yv), (⟨b2, off2 + p * 2 + 1, none⟩, .bool yp)] : List (Addr × Value)))  , cc.1.block < w1.heap.size + 1 := by (simp only [List.forall_mem_cons]); exact ⟨by show w1.heap.size < _; omega, by show w1.heap.size < _; omega, by show w.heap.size < _; omega, by show w.heap.size < _; omega, by show b1 < _; omega, by show b1 < _; omega, by show b2 < _; omega, by show b2 < _; omega, by simp⟩
        refine wp_region_late 19 3 8 (Holds [(⟨w1.heap.size, 0, none⟩, a), (⟨w1.heap.size, 1, none⟩, b), (⟨w.heap.size, 0, none⟩, .slice (some ⟨b1, off1, none⟩) m c), (⟨w.heap.size, 1, none⟩, .slice (some ⟨b2, off2, none⟩) m d), (⟨b1, off1 + p * 2, none⟩, .int .i64 xv), (⟨b1, off1 + p * 2 + 1, none⟩, .bool xp), (⟨b2, off2 + p * 2, none⟩, .int .i64 yv), (⟨b2, off2 + p * 2 + 1, none⟩, .bool yp)]) rfl (by kernel_rfl) (by kernel_rfl) (by (simp only [Holds_cons, Holds_nil, and_true]); exact ⟨k0, k1, q0, q1, x1, x2, y1, y2⟩) (fun hHeld => ?_)
        refine wpAnyH_take (i := 0) (v := ?_) rfl (by kernel_rfl) (by kernel_rfl) (by kernel_rfl) (fun _ _ _ h => h) (Or.inl ⟨by rfl, ?hyh1⟩) hHeld ?_
        case hyh1 => ((intro wz hSw); (simp only [Holds_cons, Holds_nil, and_true] at hSw); (obtain ⟨_, _, _, _, _, _, _, _⟩ := hSw); go_simp; (try with_reducible rfl))
        (try simp only [List.getElem_toArray, List.getElem_cons_succ, List.getElem_cons_zero, Act.put, List.setIfInBounds_toArray, List.set_cons_zero, List.set_cons_succ])
        refine wpAnyH_take (i := 1) (v := ?_) rfl (by kernel_rfl) (by kernel_rfl) (by kernel_rfl) (fun _ _ _ h => h) (Or.inl ⟨by rfl, ?hyh2⟩) hHeld ?_
        case hyh2 => ((intro wz hSw); (simp only [Holds_cons, Holds_nil, and_true] at hSw); (obtain ⟨_, _, _, _, _, _, _, _⟩ := hSw); go_simp; (try with_reducible rfl))
        (try simp only [List.getElem_toArray, List.getElem_cons_succ, List.getElem_cons_zero, Act.put, List.setIfInBounds_toArray, List.set_cons_zero, List.set_cons_succ])
        refine wpAnyH_take (i := 2) (v := ?_) rfl (by kernel_rfl) (by kernel_rfl) (by kernel_rfl) (fun _ _ _ h => h) (Or.inl ⟨by rfl, ?hyh3⟩) hHeld ?_
        case hyh3 => ((intro wz hSw); (simp only [Holds_cons, Holds_nil, and_true] at hSw); (obtain ⟨_, _, _, _, _, _, _, _⟩ := hSw); go_simp; (try with_reducible rfl))
        (try simp only [List.getElem_toArray, List.getElem_cons_succ, List.getElem_cons_zero, Act.put, List.setIfInBounds_toArray, List.set_cons_zero, List.set_cons_succ])
        refine wpAnyH_take (i := 3) (v := ?_) rfl (by kernel_rfl) (by kernel_rfl) (by kernel_rfl) (fun _ _ _ h => h) (Or.inl ⟨by rfl, ?hyh4⟩) hHeld ?_
        case hyh4 => ((intro wz hSw); (simp only [Holds_cons, Holds_nil, and_true] at hSw); (obtain ⟨_, _, _, _, _, _, _, _⟩ := hSw); go_simp; (try with_reducible rfl))
        (try simp only [List.getElem_toArray, List.getElem_cons_succ, List.getElem_cons_zero, Act.put, List.setIfInBounds_toArray, List.set_cons_zero, List.set_cons_succ])
        refine wpAnyH_take (i := 4) (v := ?_) rfl (by kernel_rfl) (by kernel_rfl) (by kernel_rfl) (fun _ _ _ h => h) (Or.inl ⟨by rfl, ?hyh5⟩) hHeld ?_
        case hyh5 => ((intro wz hSw); (simp only [Holds_cons, Holds_nil, and_true] at hSw); (obtain ⟨_, _, _, _, _, _, _, _⟩ := hSw); go_simp; (try with_reducible rfl))
        (try simp only [List.getElem_toArray, List.getElem_cons_succ, List.getElem_cons_zero, Act.put, List.setIfInBounds_toArray, List.set_cons_zero, List.set_cons_succ])
        refine wpAnyH_take (i := 5) (v := ?_) rfl (by kernel_rfl) (by kernel_rfl) (by kernel_rfl) (fun _ _ _ h => h) (Or.inl ⟨by rfl, ?hyh6⟩) hHeld ?_
        case hyh6 => ((intro wz hSw); (simp only [Holds_cons, Holds_nil, and_true] at hSw); (obtain ⟨_, _, _, _, _, _, _, _⟩ := hSw); go_simp; (try with_reducible rfl))
        (try simp only [List.getElem_toArray, List.getElem_cons_succ, List.getElem_cons_zero, Act.put, List.setIfInBounds_toArray, List.set_cons_zero, List.set_cons_succ])
        refine wpAnyH_take (i := 6) (v := ?_) rfl (by kernel_rfl) (by kernel_rfl) (by kernel_rfl) (fun _ _ _ h => h) (Or.inl ⟨by rfl, ?hyh7⟩) hHeld ?_
        case hyh7 => ((intro wz hSw); (simp only [Holds_cons, Holds_nil, and_true] at hSw); (obtain ⟨_, _, _, _, _, _, _, _⟩ := hSw); go_simp; (try with_reducible rfl))
        (try simp only [List.getElem_toArray, List.getElem_cons_succ, List.getElem_cons_zero, Act.put, List.setIfInBounds_toArray, List.set_cons_zero, List.set_cons_succ])
        refine wpAnyH_take (i := 9) (v := ?_) rfl (by kernel_rfl) (by kernel_rfl) (by kernel_rfl) (fun _ _ _ h => h) (Or.inl ⟨by rfl, ?hyh8⟩) hHeld ?_
        case hyh8 => ((intro wz hSw); (simp only [Holds_cons, Holds_nil, and_true] at hSw); (obtain ⟨_, _, _, _, _, _, _, _⟩ := hSw); go_simp; (try with_reducible rfl))
        (try simp only [List.getElem_toArray, List.getElem_cons_succ, List.getElem_cons_zero, Act.put, List.setIfInBounds_toArray, List.set_cons_zero, List.set_cons_succ])
        refine wpAnyH_take (i := 10) (v := ?_) rfl (by kernel_rfl) (by kernel_rfl) (by kernel_rfl) (fun _ _ _ h => h) (Or.inl ⟨by rfl, ?hyh9⟩) hHeld ?_
        case hyh9 => ((intro wz hSw); (simp only [Holds_cons, Holds_nil, and_true] at hSw); (obtain ⟨_, _, _, _, _, _, _, _⟩ := hSw); go_simp; (try with_reducible rfl))
        (try simp only [List.getElem_toArray, List.getElem_cons_succ, List.getElem_cons_zero, Act.put, List.setIfInBounds_toArray, List.set_cons_zero, List.set_cons_succ])
        refine wpAnyH_take (i := 11) (v := ?_) rfl (by kernel_rfl) (by kernel_rfl) (by kernel_rfl) (fun _ _ _ h => h) (Or.inl ⟨by rfl, ?hyh10⟩) hHeld ?_
        case hyh10 => ((intro wz hSw); (simp only [Holds_cons, Holds_nil, and_true] at hSw); (obtain ⟨_, _, _, _, _, _, _, _⟩ := hSw); go_simp; (try with_reducible rfl))
        (try simp only [List.getElem_toArray, List.getElem_cons_succ, List.getElem_cons_zero, Act.put, List.setIfInBounds_toArray, List.set_cons_zero, List.set_cons_succ])
        refine wpAnyH_take (i := 12) (v := ?_) rfl (by kernel_rfl) (by kernel_rfl) (by kernel_rfl) (fun _ _ _ h => h) (Or.inl ⟨by rfl, ?hyh11⟩) hHeld ?_
        case hyh11 => ((intro wz hSw); (simp only [Holds_cons, Holds_nil, and_true] at hSw); (obtain ⟨_, _, _, _, _, _, _, _⟩ := hSw); go_simp; (try with_reducible rfl))
        (try simp only [List.getElem_toArray, List.getElem_cons_succ, List.getElem_cons_zero, Act.put, List.setIfInBounds_toArray, List.set_cons_zero, List.set_cons_succ])
        refine wpAnyH_take (i := 13) (v := ?_) rfl (by kernel_rfl) (by kernel_rfl) (by kernel_rfl) (fun _ _ _ h => h) (Or.inl ⟨by rfl, ?hyh12⟩) hHeld ?_
        case hyh12 => ((intro wz hSw); (simp only [Holds_cons, Holds_nil, and_true] at hSw); (obtain ⟨_, _, _, _, _, _, _, _⟩ := hSw); go_simp; (try with_reducible rfl))
        (try simp only [List.getElem_toArray, List.getElem_cons_succ, List.getElem_cons_zero, Act.put, List.setIfInBounds_toArray, List.set_cons_zero, List.set_cons_succ])
        refine wpAnyH_take (i := 14) (v := ?_) rfl (by kernel_rfl) (by kernel_rfl) (by kernel_rfl) (fun _ _ _ h => h) (Or.inl ⟨by rfl, ?hyh13⟩) hHeld ?_
        case hyh13 => ((intro wz hSw); (simp only [Holds_cons, Holds_nil, and_true] at hSw); (obtain ⟨_, _, _, _, _, _, _, _⟩ := hSw); go_simp; (try with_reducible rfl))
        (try simp only [List.getElem_toArray, List.getElem_cons_succ, List.getElem_cons_zero, Act.put, List.setIfInBounds_toArray, List.set_cons_zero, List.set_cons_succ])
        refine wpAnyH_take (i := 15) (v := ?_) rfl (by kernel_rfl) (by kernel_rfl) (by kernel_rfl) (fun _ _ _ h => h) (Or.inl ⟨by rfl, ?hyh14⟩) hHeld ?_
        case hyh14 => ((intro wz hSw); (simp only [Holds_cons, Holds_nil, and_true] at hSw); (obtain ⟨_, _, _, _, _, _, _, _⟩ := hSw); go_simp; (try with_reducible rfl))
        (try simp only [List.getElem_toArray, List.getElem_cons_succ, List.getElem_cons_zero, Act.put, List.setIfInBounds_toArray, List.set_cons_zero, List.set_cons_succ])
        refine wpAnyH_ready (rs := [7, 16]) (by kernel_rfl) (by simp) ?_
        refine (AllReadyH.cons rfl (fun K hK => ?_) (AllReadyH.cons rfl (fun K hK => ?_) AllReadyH.nil))
        · skip
          go_simp
          refine hK.out _ _ (Holds.alloc hHeld _) (fun hHeldN => ?_)
          clear hK K hHeld
          have hHeld := hHeldN
          clear hHeldN
          (try simp only [List.getElem_toArray, List.getElem_cons_succ, List.getElem_cons_zero, Act.put, List.setIfInBounds_toArray, List.set_cons_zero, List.set_cons_succ])
          refine wpAnyH_ready (rs := [8, 16]) (by kernel_rfl) (by simp) ?_
          refine (AllReadyH.cons rfl (fun K hK => ?_) (AllReadyH.cons rfl (fun K hK => ?_) AllReadyH.nil))
          · skip
            refine stepT1 (by rfl) _ _ (by rfl) (by rfl) (own_ext hq.out.oa (by with_reducible (repeat (first | exact Ext.refl _ | apply Ext.drewN | apply Ext.drew | apply Ext.alloc | (refine Ext.set ?_ (by first | (simp; done) | (simp; omega) | omega) _) | (refine Ext.trans ?_ (by assumption)))))) (by first | (simp; done) | (simp; omega) | omega) (by omega) (by rfl) (heap_alloc_new _ _) (ys := [.int .i64 xv, .bool xp]) (by rfl) (by rfl) (by simp [Value.oneCell']) ?_
            intro v1 w5 hown5 hg5 hv5
            rw [← flT_snoc, ← HS1.out] at hown5
            obtain ⟨ga, cga, ea, _, _⟩ := World.ownsRow.form hown5 (by omega)
            subst ea
            have HM := hq.out.mid (by with_reducible (repeat (first | exact Ext.refl _ | apply Ext.drewN | apply Ext.drew | apply Ext.alloc | (refine Ext.set ?_ (by first | (simp; done) | (simp; omega) | omega) _) | (refine Ext.trans ?_ (by assumption))))) hq.out.oa hg5
            have kz5 := HM.2.1.2
            have HA1 := Lib.hid (hq.out.appA (by with_reducible (repeat (first | exact Ext.refl _ | apply Ext.drewN | apply Ext.drew | apply Ext.alloc | (refine Ext.set ?_ (by first | (simp; done) | (simp; omega) | omega) _) | (refine Ext.trans ?_ (by assumption))))) hown5 hg5 hv5)
            have hKeep := Holds.lowgr hHeld hBl (by with_reducible (repeat (first | exact Ext.refl _ | apply Ext.drewN | apply Ext.drew | apply Ext.alloc | (refine Ext.set ?_ (by first | (simp; done) | (simp; omega) | omega) _) | (refine Ext.trans ?_ (by assumption))))) hq.out.oa hg5 ksz
            clear HM hown5 hg5 hv5
            refine hK.out _ _ (hKeep) (fun hHeldN => ?_)
            clear hK K hHeld
            have hHeld := hHeldN
            clear hHeldN
            (try simp only [List.getElem_toArray, List.getElem_cons_succ, List.getElem_cons_zero, Act.put, List.setIfInBounds_toArray, List.set_cons_zero, List.set_cons_succ])
            refine wpAnyH_take (i := 18) (v := ?_) rfl (by kernel_rfl) (by kernel_rfl) (by kernel_rfl) (fun _ _ _ h => h) (Or.inl ⟨by rfl, ?hyh15⟩) hHeld ?_
            case hyh15 => ((intro wz hSw); (simp only [Holds_cons, Holds_nil, and_true] at hSw); (obtain ⟨_, _, _, _, _, _, _, _⟩ := hSw); go_simp; (try with_reducible rfl))
            (try simp only [List.getElem_toArray, List.getElem_cons_succ, List.getElem_cons_zero, Act.put, List.setIfInBounds_toArray, List.set_cons_zero, List.set_cons_succ])
            refine wpAnyH_ready (rs := [16]) (by kernel_rfl) (by simp) ?_
            refine AllReadyH.cons rfl (fun K hK => ?_) AllReadyH.nil
            go_simp
            refine hK.out _ _ (Holds.alloc hHeld _) (fun hHeldN => ?_)
            clear hK K hHeld
            have hHeld := hHeldN
            clear hHeldN
            (try simp only [List.getElem_toArray, List.getElem_cons_succ, List.getElem_cons_zero, Act.put, List.setIfInBounds_toArray, List.set_cons_zero, List.set_cons_succ])
            refine wpAnyH_ready (rs := [17]) (by kernel_rfl) (by simp) ?_
            refine AllReadyH.cons rfl (fun K hK => ?_) AllReadyH.nil
            refine stepT1 (by rfl) _ _ (by rfl) (by rfl) (own_ext HA1.out.ob (by with_reducible (repeat (first | exact Ext.refl _ | apply Ext.drewN | apply Ext.drew | apply Ext.alloc | (refine Ext.set ?_ (by first | (simp; done) | (simp; omega) | omega) _) | (refine Ext.trans ?_ (by assumption)))))) (by first | (simp; done) | (simp; omega) | omega) (by omega) (by rfl) (heap_alloc_new _ _) (ys := [.int .i64 yv, .bool yp]) (by rfl) (by rfl) (by simp [Value.oneCell']) ?_
            intro v2 w6 hown5 hg5 hv5
            rw [← flT_snoc, ← HS2.out] at hown5
            obtain ⟨gb, cgb, ea, _, _⟩ := World.ownsRow.form hown5 (by omega)
            subst ea
            have HM := HA1.out.mid (by with_reducible (repeat (first | exact Ext.refl _ | apply Ext.drewN | apply Ext.drew | apply Ext.alloc | (refine Ext.set ?_ (by first | (simp; done) | (simp; omega) | omega) _) | (refine Ext.trans ?_ (by assumption))))) HA1.out.ob hg5
            have m0 := HM.1.1
            have m1 := HM.1.2
            have mf := HM.2.1.1
            have kz6 := HM.2.1.2
            have HZ := Lib.hid (HA1.out.appB (by with_reducible (repeat (first | exact Ext.refl _ | apply Ext.drewN | apply Ext.drew | apply Ext.alloc | (refine Ext.set ?_ (by first | (simp; done) | (simp; omega) | omega) _) | (refine Ext.trans ?_ (by assumption))))) hown5 hg5 hv5)
            have hKeep2 := Holds.lowgr hHeld hBl (by with_reducible (repeat (first | exact Ext.refl _ | apply Ext.drewN | apply Ext.drew | apply Ext.alloc | (refine Ext.set ?_ (by first | (simp; done) | (simp; omega) | omega) _) | (refine Ext.trans ?_ (by assumption))))) HA1.out.ob hg5 kz5
            clear HM hown5 hg5 hv5
            refine hK.out _ _ (hKeep2) (fun hHeldN => ?_)
            clear hK K hHeld
            have hHeld := hHeldN
            clear hHeldN
            (try simp only [List.getElem_toArray, List.getElem_cons_succ, List.getElem_cons_zero, Act.put, List.setIfInBounds_toArray, List.set_cons_zero, List.set_cons_succ])
            refine wpAnyH_done (by kernel_rfl) ?_ _
            refine LateQ.normal ?_
            refine wpAny_ready (rs := [19]) (by kernel_rfl) (by simp) ?_
            refine AllReady.cons rfl (fun K hK => ?_) AllReady.nil
            go_simp
            (try (refine hK _ _ ?_; clear hK K))
            (try simp only [List.getElem_toArray, List.getElem_cons_succ, List.getElem_cons_zero, Act.put, List.setIfInBounds_toArray, List.set_cons_zero, List.set_cons_succ])
            refine wpAny_take (i := 20) (v := ?_) rfl (by kernel_rfl) (by kernel_rfl) (by kernel_rfl) (fun _ _ _ h => h) (Or.inl ⟨by rfl, ?hyh16⟩) ?_
            case hyh16 => ((intro wz); go_simp; (try with_reducible rfl))
            (try simp only [List.getElem_toArray, List.getElem_cons_succ, List.getElem_cons_zero, Act.put, List.setIfInBounds_toArray, List.set_cons_zero, List.set_cons_succ])
            refine wpAny_ready (rs := [21]) (by kernel_rfl) (by simp) ?_
            refine AllReady.cons rfl (fun K hK => ?_) AllReady.nil
            go_simp
            (try (refine hK _ _ ?_; clear hK K))
            (try simp only [List.getElem_toArray, List.getElem_cons_succ, List.getElem_cons_zero, Act.put, List.setIfInBounds_toArray, List.set_cons_zero, List.set_cons_succ])
            refine wpAny_done (by kernel_rfl) ?_ _
            clear q0 q1 f0 f1 k0 k1 kf x1 x2 y1 y2 m0 m1 mf hPr h hq hHeld
            have HF := Lib.hid HZ.out.fin
            go_wp2
            go_roundw
            case rel => exact ⟨k + 1, _, _, by omega, by go_num, HF⟩
            case measure => simp [intOf]; omega
          · skip
            go_simp
            refine hK.out _ _ (Holds.alloc hHeld _) (fun hHeldN => ?_)
            clear hK K hHeld
            have hHeld := hHeldN
            clear hHeldN
            (try simp only [List.getElem_toArray, List.getElem_cons_succ, List.getElem_cons_zero, Act.put, List.setIfInBounds_toArray, List.set_cons_zero, List.set_cons_succ])
            refine wpAnyH_ready (rs := [8]) (by kernel_rfl) (by simp) ?_
            refine AllReadyH.cons rfl (fun K hK => ?_) AllReadyH.nil
            refine stepT1 (by rfl) _ _ (by rfl) (by rfl) (own_ext hq.out.oa (by with_reducible (repeat (first | exact Ext.refl _ | apply Ext.drewN | apply Ext.drew | apply Ext.alloc | (refine Ext.set ?_ (by first | (simp; done) | (simp; omega) | omega) _) | (refine Ext.trans ?_ (by assumption)))))) (by first | (simp; done) | (simp; omega) | omega) (by omega) (by rfl) (heap_first _ _ _) (ys := [.int .i64 xv, .bool xp]) (by rfl) (by rfl) (by simp [Value.oneCell']) ?_
            intro v1 w5 hown5 hg5 hv5
            rw [← flT_snoc, ← HS1.out] at hown5
            obtain ⟨ga, cga, ea, _, _⟩ := World.ownsRow.form hown5 (by omega)
            subst ea
            have HM := hq.out.mid (by with_reducible (repeat (first | exact Ext.refl _ | apply Ext.drewN | apply Ext.drew | apply Ext.alloc | (refine Ext.set ?_ (by first | (simp; done) | (simp; omega) | omega) _) | (refine Ext.trans ?_ (by assumption))))) hq.out.oa hg5
            have hT1 : w5.heap[wr.heap.size + 1]? = some (.cells #[.int .i64 yv, .bool yp] 54) := grown_blk hg5 (heap_two _ _ _) (fun e => by have := (World.ownsRow.lt hq.out.oa _ e.symm).2; omega)
            have kz5 := HM.2.1.2
            have HA1 := Lib.hid (hq.out.appA (by with_reducible (repeat (first | exact Ext.refl _ | apply Ext.drewN | apply Ext.drew | apply Ext.alloc | (refine Ext.set ?_ (by first | (simp; done) | (simp; omega) | omega) _) | (refine Ext.trans ?_ (by assumption))))) hown5 hg5 hv5)
            have hKeep := Holds.lowgr hHeld hBl (by with_reducible (repeat (first | exact Ext.refl _ | apply Ext.drewN | apply Ext.drew | apply Ext.alloc | (refine Ext.set ?_ (by first | (simp; done) | (simp; omega) | omega) _) | (refine Ext.trans ?_ (by assumption))))) hq.out.oa hg5 ksz
            clear HM hown5 hg5 hv5
            refine hK.out _ _ (hKeep) (fun hHeldN => ?_)
            clear hK K hHeld
            have hHeld := hHeldN
            clear hHeldN
            (try simp only [List.getElem_toArray, List.getElem_cons_succ, List.getElem_cons_zero, Act.put, List.setIfInBounds_toArray, List.set_cons_zero, List.set_cons_succ])
            refine wpAnyH_take (i := 18) (v := ?_) rfl (by kernel_rfl) (by kernel_rfl) (by kernel_rfl) (fun _ _ _ h => h) (Or.inl ⟨by rfl, ?hyh17⟩) hHeld ?_
            case hyh17 => ((intro wz hSw); (simp only [Holds_cons, Holds_nil, and_true] at hSw); (obtain ⟨_, _, _, _, _, _, _, _⟩ := hSw); go_simp; (try with_reducible rfl))
            (try simp only [List.getElem_toArray, List.getElem_cons_succ, List.getElem_cons_zero, Act.put, List.setIfInBounds_toArray, List.set_cons_zero, List.set_cons_succ])
            refine wpAnyH_ready (rs := [17]) (by kernel_rfl) (by simp) ?_
            refine AllReadyH.cons rfl (fun K hK => ?_) AllReadyH.nil
            refine stepT1 (by rfl) _ _ (by rfl) (by rfl) (own_ext HA1.out.ob (by with_reducible (repeat (first | exact Ext.refl _ | apply Ext.drewN | apply Ext.drew | apply Ext.alloc | (refine Ext.set ?_ (by first | (simp; done) | (simp; omega) | omega) _) | (refine Ext.trans ?_ (by assumption)))))) (by first | (simp; done) | (simp; omega) | omega) (by omega) (by rfl) hT1 (ys := [.int .i64 yv, .bool yp]) (by rfl) (by rfl) (by simp [Value.oneCell']) ?_
            intro v2 w6 hown5 hg5 hv5
            rw [← flT_snoc, ← HS2.out] at hown5
            obtain ⟨gb, cgb, ea, _, _⟩ := World.ownsRow.form hown5 (by omega)
            subst ea
            have HM := HA1.out.mid (by with_reducible (repeat (first | exact Ext.refl _ | apply Ext.drewN | apply Ext.drew | apply Ext.alloc | (refine Ext.set ?_ (by first | (simp; done) | (simp; omega) | omega) _) | (refine Ext.trans ?_ (by assumption))))) HA1.out.ob hg5
            have m0 := HM.1.1
            have m1 := HM.1.2
            have mf := HM.2.1.1
            have kz6 := HM.2.1.2
            have HZ := Lib.hid (HA1.out.appB (by with_reducible (repeat (first | exact Ext.refl _ | apply Ext.drewN | apply Ext.drew | apply Ext.alloc | (refine Ext.set ?_ (by first | (simp; done) | (simp; omega) | omega) _) | (refine Ext.trans ?_ (by assumption))))) hown5 hg5 hv5)
            have hKeep2 := Holds.lowgr hHeld hBl (by with_reducible (repeat (first | exact Ext.refl _ | apply Ext.drewN | apply Ext.drew | apply Ext.alloc | (refine Ext.set ?_ (by first | (simp; done) | (simp; omega) | omega) _) | (refine Ext.trans ?_ (by assumption))))) HA1.out.ob hg5 kz5
            clear HM hown5 hg5 hv5
            refine hK.out _ _ (hKeep2) (fun hHeldN => ?_)
            clear hK K hHeld
            have hHeld := hHeldN
            clear hHeldN
            (try simp only [List.getElem_toArray, List.getElem_cons_succ, List.getElem_cons_zero, Act.put, List.setIfInBounds_toArray, List.set_cons_zero, List.set_cons_succ])
            refine wpAnyH_done (by kernel_rfl) ?_ _
            refine LateQ.normal ?_
            refine wpAny_ready (rs := [19]) (by kernel_rfl) (by simp) ?_
            refine AllReady.cons rfl (fun K hK => ?_) AllReady.nil
            go_simp
            (try (refine hK _ _ ?_; clear hK K))
            (try simp only [List.getElem_toArray, List.getElem_cons_succ, List.getElem_cons_zero, Act.put, List.setIfInBounds_toArray, List.set_cons_zero, List.set_cons_succ])
            refine wpAny_take (i := 20) (v := ?_) rfl (by kernel_rfl) (by kernel_rfl) (by kernel_rfl) (fun _ _ _ h => h) (Or.inl ⟨by rfl, ?hyh18⟩) ?_
            case hyh18 => ((intro wz); go_simp; (try with_reducible rfl))
            (try simp only [List.getElem_toArray, List.getElem_cons_succ, List.getElem_cons_zero, Act.put, List.setIfInBounds_toArray, List.set_cons_zero, List.set_cons_succ])
            refine wpAny_ready (rs := [21]) (by kernel_rfl) (by simp) ?_
            refine AllReady.cons rfl (fun K hK => ?_) AllReady.nil
            go_simp
            (try (refine hK _ _ ?_; clear hK K))
            (try simp only [List.getElem_toArray, List.getElem_cons_succ, List.getElem_cons_zero, Act.put, List.setIfInBounds_toArray, List.set_cons_zero, List.set_cons_succ])
            refine wpAny_done (by kernel_rfl) ?_ _
            clear q0 q1 f0 f1 k0 k1 kf x1 x2 y1 y2 m0 m1 mf hPr h hq hHeld
            have HF := Lib.hid HZ.out.fin
            go_wp2
            go_roundw
            case rel => exact ⟨k + 1, _, _, by omega, by go_num, HF⟩
            case measure => simp [intOf]; omega
        · skip
          go_simp
          refine hK.out _ _ (Holds.alloc hHeld _) (fun hHeldN => ?_)
          clear hK K hHeld
          have hHeld := hHeldN
          clear hHeldN
          (try simp only [List.getElem_toArray, List.getElem_cons_succ, List.getElem_cons_zero, Act.put, List.setIfInBounds_toArray, List.set_cons_zero, List.set_cons_succ])
          refine wpAnyH_ready (rs := [7]) (by kernel_rfl) (by simp) ?_
          refine AllReadyH.cons rfl (fun K hK => ?_) AllReadyH.nil
          go_simp
          refine hK.out _ _ (Holds.alloc hHeld _) (fun hHeldN => ?_)
          clear hK K hHeld
          have hHeld := hHeldN
          clear hHeldN
          (try simp only [List.getElem_toArray, List.getElem_cons_succ, List.getElem_cons_zero, Act.put, List.setIfInBounds_toArray, List.set_cons_zero, List.set_cons_succ])
          refine wpAnyH_ready (rs := [8]) (by kernel_rfl) (by simp) ?_
          refine AllReadyH.cons rfl (fun K hK => ?_) AllReadyH.nil
          refine stepT1 (by rfl) _ _ (by rfl) (by rfl) (own_ext hq.out.oa (by with_reducible (repeat (first | exact Ext.refl _ | apply Ext.drewN | apply Ext.drew | apply Ext.alloc | (refine Ext.set ?_ (by first | (simp; done) | (simp; omega) | omega) _) | (refine Ext.trans ?_ (by assumption)))))) (by first | (simp; done) | (simp; omega) | omega) (by omega) (by rfl) (heap_two _ _ _) (ys := [.int .i64 xv, .bool xp]) (by rfl) (by rfl) (by simp [Value.oneCell']) ?_
          intro v1 w5 hown5 hg5 hv5
          rw [← flT_snoc, ← HS1.out] at hown5
          obtain ⟨ga, cga, ea, _, _⟩ := World.ownsRow.form hown5 (by omega)
          subst ea
          have HM := hq.out.mid (by with_reducible (repeat (first | exact Ext.refl _ | apply Ext.drewN | apply Ext.drew | apply Ext.alloc | (refine Ext.set ?_ (by first | (simp; done) | (simp; omega) | omega) _) | (refine Ext.trans ?_ (by assumption))))) hq.out.oa hg5
          have hT0 : w5.heap[wr.heap.size]? = some (.cells #[.int .i64 yv, .bool yp] 54) := grown_blk hg5 (heap_first _ _ _) (fun e => by have := (World.ownsRow.lt hq.out.oa _ e.symm).2; omega)
          have kz5 := HM.2.1.2
          have HA1 := Lib.hid (hq.out.appA (by with_reducible (repeat (first | exact Ext.refl _ | apply Ext.drewN | apply Ext.drew | apply Ext.alloc | (refine Ext.set ?_ (by first | (simp; done) | (simp; omega) | omega) _) | (refine Ext.trans ?_ (by assumption))))) hown5 hg5 hv5)
          have hKeep := Holds.lowgr hHeld hBl (by with_reducible (repeat (first | exact Ext.refl _ | apply Ext.drewN | apply Ext.drew | apply Ext.alloc | (refine Ext.set ?_ (by first | (simp; done) | (simp; omega) | omega) _) | (refine Ext.trans ?_ (by assumption))))) hq.out.oa hg5 ksz
          clear HM hown5 hg5 hv5
          refine hK.out _ _ (hKeep) (fun hHeldN => ?_)
          clear hK K hHeld
          have hHeld := hHeldN
          clear hHeldN
          (try simp only [List.getElem_toArray, List.getElem_cons_succ, List.getElem_cons_zero, Act.put, List.setIfInBounds_toArray, List.set_cons_zero, List.set_cons_succ])
          refine wpAnyH_take (i := 18) (v := ?_) rfl (by kernel_rfl) (by kernel_rfl) (by kernel_rfl) (fun _ _ _ h => h) (Or.inl ⟨by rfl, ?hyh19⟩) hHeld ?_
          case hyh19 => ((intro wz hSw); (simp only [Holds_cons, Holds_nil, and_true] at hSw); (obtain ⟨_, _, _, _, _, _, _, _⟩ := hSw); go_simp; (try with_reducible rfl))
          (try simp only [List.getElem_toArray, List.getElem_cons_succ, List.getElem_cons_zero, Act.put, List.setIfInBounds_toArray, List.set_cons_zero, List.set_cons_succ])
          refine wpAnyH_ready (rs := [17]) (by kernel_rfl) (by simp) ?_
          refine AllReadyH.cons rfl (fun K hK => ?_) AllReadyH.nil
          refine stepT1 (by rfl) _ _ (by rfl) (by rfl) (own_ext HA1.out.ob (by with_reducible (repeat (first | exact Ext.refl _ | apply Ext.drewN | apply Ext.drew | apply Ext.alloc | (refine Ext.set ?_ (by first | (simp; done) | (simp; omega) | omega) _) | (refine Ext.trans ?_ (by assumption)))))) (by first | (simp; done) | (simp; omega) | omega) (by omega) (by rfl) hT0 (ys := [.int .i64 yv, .bool yp]) (by rfl) (by rfl) (by simp [Value.oneCell']) ?_
          intro v2 w6 hown5 hg5 hv5
          rw [← flT_snoc, ← HS2.out] at hown5
          obtain ⟨gb, cgb, ea, _, _⟩ := World.ownsRow.form hown5 (by omega)
          subst ea
          have HM := HA1.out.mid (by with_reducible (repeat (first | exact Ext.refl _ | apply Ext.drewN | apply Ext.drew | apply Ext.alloc | (refine Ext.set ?_ (by first | (simp; done) | (simp; omega) | omega) _) | (refine Ext.trans ?_ (by assumption))))) HA1.out.ob hg5
          have m0 := HM.1.1
          have m1 := HM.1.2
          have mf := HM.2.1.1
          have kz6 := HM.2.1.2
          have HZ := Lib.hid (HA1.out.appB (by with_reducible (repeat (first | exact Ext.refl _ | apply Ext.drewN | apply Ext.drew | apply Ext.alloc | (refine Ext.set ?_ (by first | (simp; done) | (simp; omega) | omega) _) | (refine Ext.trans ?_ (by assumption))))) hown5 hg5 hv5)
          have hKeep2 := Holds.lowgr hHeld hBl (by with_reducible (repeat (first | exact Ext.refl _ | apply Ext.drewN | apply Ext.drew | apply Ext.alloc | (refine Ext.set ?_ (by first | (simp; done) | (simp; omega) | omega) _) | (refine Ext.trans ?_ (by assumption))))) HA1.out.ob hg5 kz5
          clear HM hown5 hg5 hv5
          refine hK.out _ _ (hKeep2) (fun hHeldN => ?_)
          clear hK K hHeld
          have hHeld := hHeldN
          clear hHeldN
          (try simp only [List.getElem_toArray, List.getElem_cons_succ, List.getElem_cons_zero, Act.put, List.setIfInBounds_toArray, List.set_cons_zero, List.set_cons_succ])
          refine wpAnyH_done (by kernel_rfl) ?_ _
          refine LateQ.normal ?_
          refine wpAny_ready (rs := [19]) (by kernel_rfl) (by simp) ?_
          refine AllReady.cons rfl (fun K hK => ?_) AllReady.nil
          go_simp
          (try (refine hK _ _ ?_; clear hK K))
          (try simp only [List.getElem_toArray, List.getElem_cons_succ, List.getElem_cons_zero, Act.put, List.setIfInBounds_toArray, List.set_cons_zero, List.set_cons_succ])
          refine wpAny_take (i := 20) (v := ?_) rfl (by kernel_rfl) (by kernel_rfl) (by kernel_rfl) (fun _ _ _ h => h) (Or.inl ⟨by rfl, ?hyh20⟩) ?_
          case hyh20 => ((intro wz); go_simp; (try with_reducible rfl))
          (try simp only [List.getElem_toArray, List.getElem_cons_succ, List.getElem_cons_zero, Act.put, List.setIfInBounds_toArray, List.set_cons_zero, List.set_cons_succ])
          refine wpAny_ready (rs := [21]) (by kernel_rfl) (by simp) ?_
          refine AllReady.cons rfl (fun K hK => ?_) AllReady.nil
          go_simp
          (try (refine hK _ _ ?_; clear hK K))
          (try simp only [List.getElem_toArray, List.getElem_cons_succ, List.getElem_cons_zero, Act.put, List.setIfInBounds_toArray, List.set_cons_zero, List.set_cons_succ])
          refine wpAny_done (by kernel_rfl) ?_ _
          clear q0 q1 f0 f1 k0 k1 kf x1 x2 y1 y2 m0 m1 mf hPr h hq hHeld
          have HF := Lib.hid HZ.out.fin
          go_wp2
          go_roundw
          case rel => exact ⟨k + 1, _, _, by omega, by go_num, HF⟩
          case measure => simp [intOf]; omega
      · obtain rfl : k = m := by omega
        obtain ⟨ra, ca, hra, _, _⟩ := World.ownsRow.form h.out.oa (by omega)
        obtain ⟨rb, cb, hrb, _, _⟩ := World.ownsRow.form h.out.ob (by omega)
        subst hra hrb
        have hRr := blk_ext hR1 h.out.X
        obtain ⟨⟨q0, q1⟩, f0, f1⟩ := blk2 hPr
        obtain ⟨⟨r0, r1⟩, s0, s1⟩ := blk2 hRr
        have k0 := h.out.k0
        have k1 := h.out.k1
        have kf := h.out.f
        have ksz := h.out.sz
        have hne1 : ¬ w.heap.size + 1 = w1.heap.size := by omega
        have hTA := ThO.of_own h.out.oa (rtk_len ts by_ k) (by omega)
        have hTB := ThO.of_own h.out.ob (rtk_len us by_ k) (by omega)
        have hXX : Ext w wr := hE1.trans h.out.X
        have HT := Lib.hid (fun u v : Value => (⟨((hTA.far (p := ⟨w.heap.size + 1, 0, none⟩) (by show w.heap.size + 1 < w1.heap.size + 1; omega) u).far (p := ⟨w.heap.size + 1, 1, none⟩) (by show w.heap.size + 1 < w1.heap.size + 1; omega) v).t, ((hTB.far (p := ⟨w.heap.size + 1, 0, none⟩) (by show w.heap.size + 1 < w1.heap.size + 1; omega) u).far (p := ⟨w.heap.size + 1, 1, none⟩) (by show w.heap.size + 1 < w1.heap.size + 1; omega) v).t, (hXX.set (by show w.heap.size ≤ w.heap.size + 1; omega) _).set (by show w.heap.size ≤ w.heap.size + 1; omega) _⟩ : Thr ((wr.setCell ⟨w.heap.size + 1, 0, none⟩ u).setCell ⟨w.heap.size + 1, 1, none⟩ v) _ _ _ ∧ Thr ((wr.setCell ⟨w.heap.size + 1, 0, none⟩ u).setCell ⟨w.heap.size + 1, 1, none⟩ v) _ _ _ ∧ Ext w ((wr.setCell ⟨w.heap.size + 1, 0, none⟩ u).setCell ⟨w.heap.size + 1, 1, none⟩ v)))
        clear hTA hTB hXX h hPr hRr
        go_wp2
        exact bodyPost_ret (v := .tuple #[.agg #[.slice (some ⟨ra, 0, none⟩) k ca, .slice (some ⟨rb, 0, none⟩) k cb], .int .i64 0]) (by simp [results, Try.results19, go_sem, *]) rfl ⟨_, _, _, _, _, _, rfl, (HT.out _ _).1, (HT.out _ _).2.1, (HT.out _ _).2.2⟩
end Go.Proofs.Ytlalaomimfdepaa
