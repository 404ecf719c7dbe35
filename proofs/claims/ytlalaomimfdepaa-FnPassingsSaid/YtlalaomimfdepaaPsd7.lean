/- Passing patterns: RotatePassing of the reference. No condition but the stated bounds. -/
import Derived.Test.YtlalaomimfdepaaPsd6
import Derived.Deep.RegionLaw
import Derived.Deep.CutRange
namespace Go.Proofs.Ytlalaomimfdepaa
set_option linter.unusedVariables false
set_option linter.unusedSimpArgs false
open Go.ChangeShapes Go.WideShapes Go.ChangeAt Go.RowKit Go.Joins Go.Deep

/-- What hands back a passing pattern that is read, and a code. -/
def RetTh (w : World) (ts us : List (Int × Bool)) (r : Int) (e : Ending) (w' : World) : Prop :=
  ∃ A n c B m d, e = .returned (.tuple #[.agg #[.slice A n c, .slice B m d], .int .i64 r]) ∧ Thr w' A n ts ∧ Thr w' B m us ∧ Ext w w'
/-- The throw i of a list that is rotated. -/
def rti (ts : List (Int × Bool)) (by_ : Int) (i : Nat) : Int × Bool := (tv ts (((i : Int) + by_) % (ts.length : Int)).toNat, tp ts (((i : Int) + by_) % (ts.length : Int)).toNat)
def rtk (ts : List (Int × Bool)) (by_ : Int) (k : Nat) : List (Int × Bool) := (List.range k).map (rti ts by_)
theorem rtk_len (ts : List (Int × Bool)) (by_ : Int) (k : Nat) : (rtk ts by_ k).length = k := by simp [rtk]
theorem rtk_succ (ts : List (Int × Bool)) (by_ : Int) (k : Nat) : rtk ts by_ (k + 1) = rtk ts by_ k ++ [rti ts by_ k] := by simp [rtk, List.range_succ]
def rtp (ts us : List (Int × Bool)) (by_ : Int) : List (Int × Bool) × List (Int × Bool) × Int :=
  if vpas ts us then (if btw by_ (-1000000) 1000000 then (rtk ts by_ ts.length, rtk us by_ us.length, 0) else ([], [], 2)) else ([], [], 1)
/-- 'append(list, throw)' at a drawn step. -/
theorem stepT1 {W : World} {lo : Nat} {v : Value} {n : Nat} {cs ys : List Value} {ops : Array Oper} {o : Oper} {a : Act} {K : Act → World → Prop} {Q : Exit → Act → World → Prop} {E : Prop} (hgd : o.guard = none) (s x : Operand)
    (ho : o.op = .call { callee := .builtin .append, args := #[s, x], argTypes := #[26, 26] }) (hs : a.eval s = v) (hown : W.ownsRow lo 54 2 v n cs) (hlo : lo ≤ W.heap.size) (hn : n ≤ 1000) {B : Nat}
    (hx : a.eval x = .slice (some ⟨B, 0, none⟩) 1 1) {ar : Array Value} {t' : TypeId} {fr : Nat × Nat} (hB : W.heap[B]? = some (.cells ar t' fr)) (hc : ar.toList = ys) (hl : ys.length = 2) (h1 : ∀ u ∈ ys, u.oneCell' = true)
    (h : ∀ v' w', w'.ownsRow lo 54 2 v' (n + 1) (cs ++ ys) → W.grownBy w' v.ownBlock → (v'.ownBlock = v.ownBlock ∨ v'.ownBlock = some W.heap.size) → K (a.put o.dst v') w') :
    if Region.wanted o (yielded ops a.tmps) = true then Oper.wp Try.prog o a W K Q else E := by
  have hw : Region.wanted o (yielded ops a.tmps) = true := by simp [Region.wanted, hgd]
  rw [if_pos hw]
  obtain ⟨i, z, hi, hz0, hz1, hz2, hz3⟩ := elThr
  obtain ⟨v', w', hrun, h2, h3, _, h5⟩ := run_append_own_at (P := Try.prog) W lo 26 o.type 54 i z 2 16 Try.underlying26 hi hz0 hz1 hz2 hz3 (by omega) v n _ hown ⟨B, 0, none⟩ 1 1 ys (by rw [hl]) (newsG hB hc) h1 (by unfold maxLen; omega) (by omega) hlo
  unfold Oper.wp execOp
  simp only [ho, resolve, invoke, builtin, Sem.run_bind, Sem.run_pure, Result.andThen_ok, List.map_toArray, List.map_cons, List.map_nil, hs, hx, hrun]
  exact h v' w' h2 h3 h5
/-- Two lists that grow behind lo, told by the box OB. -/
structure RLp (w wr : World) (OB lo j k : Nat) (a b : Value) (la lb : List (Int × Bool)) : Prop where
  k0 : wr.cell? ⟨OB, 0, none⟩ = some a
  k1 : wr.cell? ⟨OB, 1, none⟩ = some b
  f : ∀ o, wr.frozen? ⟨OB, o, none⟩ = false
  oa : wr.ownsRow lo 54 2 a j (flT la)
  ob : wr.ownsRow lo 54 2 b k (flT lb)
  ne : ∀ q, a.ownBlock = some q → b.ownBlock ≠ some q
  ll : OB < lo
  gt : w.heap.size ≤ OB
  sz : lo ≤ wr.heap.size
  X : Ext w wr
section
variable {w wr W w' : World} {OB lo j k : Nat} {a b v' : Value} {la lb cs : List (Int × Bool)}
theorem RLp.mid (h : RLp w wr OB lo j k a b la lb) {v : Value} {m : Nat} {ws : List Value} (hx : Ext wr W) (hv : wr.ownsRow lo 54 2 v m ws) (q : W.grownBy w' v.ownBlock) :
    (w'.cell? ⟨OB, 0, none⟩ = some a ∧ w'.cell? ⟨OB, 1, none⟩ = some b) ∧ ((∀ i, w'.frozen? ⟨OB, i, none⟩ = false) ∧ lo ≤ w'.heap.size) ∧ Ext w w' ∧ (∀ x, x < lo → ∀ i, w'.cell? ⟨x, i, none⟩ = wr.cell? ⟨x, i, none⟩) := by
  have hl := h.ll
  have hsz := h.sz
  have hz := hx.size
  have hlo : ∀ b, v.ownBlock = some b → lo ≤ b := fun b hb => (World.ownsRow.lt hv b hb).1
  have e : ∀ b, b < lo → ∀ i, w'.cell? ⟨b, i, none⟩ = wr.cell? ⟨b, i, none⟩ ∧ w'.frozen? ⟨b, i, none⟩ = wr.frozen? ⟨b, i, none⟩ := fun b hb i => by
    have h1 := own_cellB q (b := b) (by omega) (fun e => by have := hlo b e.symm; omega) i
    exact ⟨h1.1.trans (hx.cells.1 b i (by omega)), h1.2.trans (hx.cells.2 b i (by omega))⟩
  exact ⟨⟨(e _ hl 0).1.trans h.k0, (e _ hl 1).1.trans h.k1⟩, ⟨fun i => (e _ hl i).2.trans (h.f i), by have := q.size; omega⟩, (h.X.trans hx).grown q (fun x hx => by have := hlo x hx; have := h.gt; omega), fun x hx i => (e x hx i).1⟩
theorem RLp.appA (h : RLp w wr OB lo j k a b la lb) (hx : Ext wr W) (ho : w'.ownsRow lo 54 2 v' (j + 1) (flT cs)) (q : W.grownBy w' a.ownBlock) (hv : v'.ownBlock = a.ownBlock ∨ v'.ownBlock = some W.heap.size) :
    RLp w (w'.setCell ⟨OB, 0, none⟩ v') OB lo (j + 1) k v' b cs lb := by
  obtain ⟨⟨m0, m1⟩, ⟨mf, ms⟩, mX, _⟩ := h.mid hx h.oa q
  have hl := h.ll
  have hz := hx.size
  have hB : w'.ownsRow lo 54 2 b k (flT lb) := own_far (own_ext h.ob hx) q (fun x hx hb => h.ne x hx hb)
  refine ⟨World.cell?_setCell_same _ _ _ m0, ?_, fun i => by rw [World.frozen?_setCell]; exact mf i, own_far ho (only_setCell (World.grownBy.refl w' (some OB)) (p := ⟨OB, 0, none⟩) rfl v') (fun x hx hb => by cases hx; have := (World.ownsRow.lt ho _ hb).1; omega), own_far hB (only_setCell (World.grownBy.refl w' (some OB)) (p := ⟨OB, 0, none⟩) rfl v') (fun x hx hb => by cases hx; have := (World.ownsRow.lt hB _ hb).1; omega), fun x hx hb => ?_, hl, h.gt, by simpa [World.setCell] using ms, mX.set h.gt _⟩
  · rw [World.cell?_setCell_other _ _ _ _ (fun e => by cases e)]; exact m1
  · rcases hv with hv | hv
    · exact h.ne x (hv ▸ hx) hb
    · have h1 := (World.ownsRow.lt h.ob x hb).2
      rw [hv] at hx
      cases hx
      omega
theorem RLp.appB (h : RLp w wr OB lo j k a b la lb) (hx : Ext wr W) (ho : w'.ownsRow lo 54 2 v' (k + 1) (flT cs)) (q : W.grownBy w' b.ownBlock) (hv : v'.ownBlock = b.ownBlock ∨ v'.ownBlock = some W.heap.size) :
    RLp w (w'.setCell ⟨OB, 1, none⟩ v') OB lo j (k + 1) a v' la cs := by
  obtain ⟨⟨m0, m1⟩, ⟨mf, ms⟩, mX, _⟩ := h.mid hx h.ob q
  have hl := h.ll
  have hz := hx.size
  have hA : w'.ownsRow lo 54 2 a j (flT la) := own_far (own_ext h.oa hx) q (fun x hx hb => h.ne x hb hx)
  refine ⟨?_, World.cell?_setCell_same _ _ _ m1, fun i => by rw [World.frozen?_setCell]; exact mf i, own_far hA (only_setCell (World.grownBy.refl w' (some OB)) (p := ⟨OB, 1, none⟩) rfl v') (fun x hx hb => by cases hx; have := (World.ownsRow.lt hA _ hb).1; omega), own_far ho (only_setCell (World.grownBy.refl w' (some OB)) (p := ⟨OB, 1, none⟩) rfl v') (fun x hx hb => by cases hx; have := (World.ownsRow.lt ho _ hb).1; omega), fun x hx hb => ?_, hl, h.gt, by simpa [World.setCell] using ms, mX.set h.gt _⟩
  · rw [World.cell?_setCell_other _ _ _ _ (fun e => by cases e)]; exact m0
  · rcases hv with hv | hv
    · exact h.ne x hx (hv ▸ hb)
    · have h1 := (World.ownsRow.lt h.oa x hx).2
      rw [hv] at hb
      cases hb
      omega
end
set_option maxHeartbeats 8000000 in
set_option maxRecDepth 100000 in
theorem specRotate_any (A B : Option Addr) (n c m d : Nat) (ts us : List (Int × Bool)) (by_ : Int) (w : World) (hI : Thr w A n ts) (hJ : Thr w B m us) (hby : -2000000 ≤ by_ ∧ by_ ≤ 2000000) :
    Calls Try.prog 20 #[.agg #[.slice A n c, .slice B m d], .int .i64 by_] w (RetTh w (rtp ts us by_).1 (rtp ts us by_).2.1 (rtp ts us by_).2.2) := by
  have hbx : PBox ((w.alloc (.cells #[.slice A n c, .slice B m d] 28)).alloc (.cells #[.slice none 0 0, .slice none 0 0] 28)) w.heap.size A n c B m d := (⟨by simp, (blk2 (heap_alloc_new w _)).1.1, (blk2 (heap_alloc_new w _)).1.2⟩ : PBox (w.alloc (.cells #[.slice A n c, .slice B m d] 28)) w.heap.size A n c B m d).ext ((Ext.refl _).alloc _)
  have hPB := blk_ext (heap_alloc_new w (.cells #[.slice A n c, .slice B m d] 28)) ((Ext.refl _).alloc (.cells #[.slice none 0 0, .slice none 0 0] 28))
  have hRB := heap_alloc_new (w.alloc (.cells #[.slice A n c, .slice B m d] 28)) (.cells #[.slice none 0 0, .slice none 0 0] 28)
  rw [World.size_alloc] at hRB
  cases hv : vpas ts us
  · have HX : Hid (rtp ts us by_ = ([], [], 1)) := by show _ = _; simp [rtp, hv]
    rw [HX.out]
    go_enter Try.func20, Try.ntmps20
    go_wp2_with fail
    (with_reducible refine (l06Ok_any _ A B n c m d ts us _ hbx (hI.ext (by with_reducible (repeat (first | exact Ext.refl _ | apply Ext.drewN | apply Ext.drew | apply Ext.alloc | (refine Ext.set ?_ (by first | (simp; done) | (simp; omega) | omega) _) | (refine Ext.trans ?_ (by assumption)))))) (hJ.ext (by with_reducible (repeat (first | exact Ext.refl _ | apply Ext.drewN | apply Ext.drew | apply Ext.alloc | (refine Ext.set ?_ (by first | (simp; done) | (simp; omega) | omega) _) | (refine Ext.trans ?_ (by assumption))))))).mono ?_)
    rw [hv]
    rintro e w1 ⟨rfl, hx1⟩
    have hR1 := blk_ext hRB hx1
    obtain ⟨⟨r0, r1⟩, s0, s1⟩ := blk2 hR1
    have HE : Hid (Ext w w1) := Ext.trans (by with_reducible (repeat (first | exact Ext.refl _ | apply Ext.drewN | apply Ext.drew | apply Ext.alloc | (refine Ext.set ?_ (by first | (simp; done) | (simp; omega) | omega) _) | (refine Ext.trans ?_ (by assumption))))) hx1
    clear hx1 hR1 hRB hPB hbx hI hJ
    go_wp2
    refine bodyPost_ret (v := .tuple #[.agg #[.slice none 0 0, .slice none 0 0], .int .i64 1]) (by simp [results, Try.results20, go_sem, *]) rfl ⟨none, 0, 0, none, 0, 0, rfl, Thr.nil _ _, Thr.nil _ _, ?_⟩
    (repeat (refine Ext.set ?_ (by show w.heap.size ≤ w.heap.size + 1; omega) _))
    exact HE.out
  cases hb : btw by_ (-1000000) 1000000
  · have HX : Hid (rtp ts us by_ = ([], [], 2)) := by show _ = _; simp [rtp, hv, hb]
    rw [HX.out]
    go_enter Try.func20, Try.ntmps20
    go_wp2_with fail
    (with_reducible refine (l06Ok_any _ A B n c m d ts us _ hbx (hI.ext (by with_reducible (repeat (first | exact Ext.refl _ | apply Ext.drewN | apply Ext.drew | apply Ext.alloc | (refine Ext.set ?_ (by first | (simp; done) | (simp; omega) | omega) _) | (refine Ext.trans ?_ (by assumption)))))) (hJ.ext (by with_reducible (repeat (first | exact Ext.refl _ | apply Ext.drewN | apply Ext.drew | apply Ext.alloc | (refine Ext.set ?_ (by first | (simp; done) | (simp; omega) | omega) _) | (refine Ext.trans ?_ (by assumption))))))).mono ?_)
    rw [hv]
    rintro e w1 ⟨rfl, hx1⟩
    have hR1 := blk_ext hRB hx1
    obtain ⟨⟨r0, r1⟩, s0, s1⟩ := blk2 hR1
    have HE : Hid (Ext w w1) := Ext.trans (by with_reducible (repeat (first | exact Ext.refl _ | apply Ext.drewN | apply Ext.drew | apply Ext.alloc | (refine Ext.set ?_ (by first | (simp; done) | (simp; omega) | omega) _) | (refine Ext.trans ?_ (by assumption))))) hx1
    have HB := Lib.hid hb
    clear hx1 hR1 hRB hPB hbx hI hJ hb
    go_wp2_with (first | (go_at_call 33; (with_reducible refine (l00In_is by_ (-1000000) 1000000 false HB.out _).mono ?_); rintro e w' ⟨rfl, rfl⟩))
    refine bodyPost_ret (v := .tuple #[.agg #[.slice none 0 0, .slice none 0 0], .int .i64 2]) (by simp [results, Try.results20, go_sem, *]) rfl ⟨none, 0, 0, none, 0, 0, rfl, Thr.nil _ _, Thr.nil _ _, ?_⟩
    (repeat (refine Ext.set ?_ (by show w.heap.size ≤ w.heap.size + 1; omega) _))
    exact HE.out
  · obtain ⟨g1, g2, g3, g4, g5⟩ := vpas_parts hv
    have HX : Hid (rtp ts us by_ = (rtk ts by_ n, rtk us by_ n, 0)) := by show _ = _; simp only [rtp, hv, hb, if_true]; rw [g3, hI.len]
    rw [HX.out]
    have l1 := hI.len
    have l2 := hJ.len
    obtain rfl : m = n := by omega
    have hm8 : 1 ≤ m ∧ m ≤ 8 := by omega
    have HB := Lib.hid hb
    clear g1 g2 g3 g4 g5 hb
    go_enter Try.func20, Try.ntmps20
    go_wp2_with fail
    (with_reducible refine (l06Ok_any _ A B m c m d ts us _ hbx (hI.ext (by with_reducible (repeat (first | exact Ext.refl _ | apply Ext.drewN | apply Ext.drew | apply Ext.alloc | (refine Ext.set ?_ (by first | (simp; done) | (simp; omega) | omega) _) | (refine Ext.trans ?_ (by assumption)))))) (hJ.ext (by with_reducible (repeat (first | exact Ext.refl _ | apply Ext.drewN | apply Ext.drew | apply Ext.alloc | (refine Ext.set ?_ (by first | (simp; done) | (simp; omega) | omega) _) | (refine Ext.trans ?_ (by assumption))))))).mono ?_)
    rw [hv]
    rintro e w1 ⟨rfl, hx1⟩
    have hR1 := blk_ext hRB hx1
    have hP1 := blk_ext hPB hx1
    have hE1 : Ext w w1 := Ext.trans (by with_reducible (repeat (first | exact Ext.refl _ | apply Ext.drewN | apply Ext.drew | apply Ext.alloc | (refine Ext.set ?_ (by first | (simp; done) | (simp; omega) | omega) _) | (refine Ext.trans ?_ (by assumption))))) hx1
    have hz1 : w.heap.size + 1 < w1.heap.size := by have := hx1.size; simp at this; omega
    clear hx1 hRB hPB hbx hv
    obtain ⟨⟨q0, q1⟩, f0, f1⟩ := blk2 hP1
    have hO1 := heap_alloc_new w1 (.cells #[.slice none 0 0, .slice none 0 0] 28)
    have hL0 : Hid (RLp w1 (w1.alloc (.cells #[.slice none 0 0, .slice none 0 0] 28)) w1.heap.size (w1.heap.size + 1) 0 0 (.slice none 0 0) (.slice none 0 0) (rtk ts by_ 0) (rtk us by_ 0)) := ⟨(blk2 hO1).1.1, (blk2 hO1).1.2, unfrozen_of_block hO1, ⟨by simp [rtk, flT], .inl ⟨rfl, rfl⟩⟩, ⟨by simp [rtk, flT], .inl ⟨rfl, rfl⟩⟩, (fun x hx => (by cases hx)), by omega, Nat.le_refl _, by simp, (Ext.refl _).alloc _⟩
    have hI1 := hI.ext hE1
    have hJ1 := hJ.ext hE1
    clear hO1
    go_wp2_with (first | (go_at_call 33; (with_reducible refine (l00In_is by_ (-1000000) 1000000 true HB.out _).mono ?_); rintro e w' ⟨rfl, rfl⟩))
    go_loopw [8] (fun i wr => ∃ (k : Nat) (a b : Value), k ≤ m ∧ i = .int .i64 k ∧ Hid (RLp w1 wr w1.heap.size (w1.heap.size + 1) k k a b (rtk ts by_ k) (rtk us by_ k))) (fun i _ => m - (intOf i).toNat)
    case atStart => exact ⟨0, _, _, by omega, rfl, hL0⟩
    case round =>
      obtain ⟨k, a, b, hk, rfl, h⟩ := hrel
      clear hL0 q0 q1 f0 f1
      have hPr := blk_ext hP1 h.out.X
      by_cases hlt : k < m
      · have hki : (k : Int) < m := by omega
        have hmm := Int.emod_nonneg ((k : Int) + by_) (show (m : Int) ≠ 0 by omega)
        have hmm2 := Int.emod_lt_of_pos ((k : Int) + by_) (show 0 < (m : Int) by omega)
        obtain ⟨p, hp⟩ : ∃ p : Nat, ((k : Int) + by_) % (m : Int) = p := ⟨_, (Int.toNat_of_nonneg hmm).symm⟩
        rw [hp] at hmm2
        have hpm : p < m := by omega
        have hpi : (p : Int) < m := by omega
        obtain ⟨b1, off1, eA, hb1, hcell1⟩ := hI1.at_ (by omega)
        obtain ⟨b2, off2, eB, hb2, hcell2⟩ := hJ1.at_ (by omega)
        obtain ⟨x1, x2⟩ := hcell1 p hpm
        obtain ⟨y1, y2⟩ := hcell2 p hpm
        have HXV : Hid (∀ W, Ext w1 W → W.cell? ⟨b1, off1 + p * 2, none⟩ = some (.int .i64 (tv ts p)) ∧ W.cell? ⟨b1, off1 + p * 2 + 1, none⟩ = some (.bool (tp ts p))) := fun W hx => ⟨hx.cell hb1 x1, hx.cell hb1 x2⟩
        have HYV : Hid (∀ W, Ext w1 W → W.cell? ⟨b2, off2 + p * 2, none⟩ = some (.int .i64 (tv us p)) ∧ W.cell? ⟨b2, off2 + p * 2 + 1, none⟩ = some (.bool (tp us p))) := fun W hx => ⟨hx.cell hb2 y1, hx.cell hb2 y2⟩
        clear x1 x2 y1 y2
        obtain ⟨x1, x2⟩ := HXV.out wr h.out.X
        have HS1 : Hid (rtk ts by_ (k + 1) = rtk ts by_ k ++ [(tv ts p, tp ts p)]) := by show _ = _; rw [rtk_succ]; unfold rti; rw [l1, hp]; rfl
        have HS2 : Hid (rtk us by_ (k + 1) = rtk us by_ k ++ [(tv us p, tp us p)]) := by show _ = _; rw [rtk_succ]; unfold rti; rw [l2, hp]; rfl
        have HP := Lib.hid hp
        clear hcell1 hcell2 hp
        subst eA eB
        obtain ⟨⟨q0, q1⟩, f0, f1⟩ := blk2 hPr
        have k0 := h.out.k0
        have k1 := h.out.k1
        have kf := h.out.f
        have ksz := h.out.sz
        have kl1 : w1.heap.size < wr.heap.size := by omega
        have kl2 : b1 < wr.heap.size := by omega
        have kl3 : w.heap.size < wr.heap.size := by omega
        have kl4 : b2 < wr.heap.size := by omega
        generalize tv ts p = xv at *
        generalize tp ts p = xp at *
        generalize tv us p = yv at *
        generalize tp us p = yp at *
        have hkw : IntKind.i64.wrap ((k : Int) + by_) = (k : Int) + by_ := IntWalk.i64_in _ (by omega)
        go_upto_region 11 with (first | (go_at_call 42; (with_reducible refine (l02Mod_is _ _ _ _ (by omega) (by omega) HP.out).mono ?_); rintro e w' ⟨rfl, rfl⟩))
        go_cut [9] from 21 to 50 (fun s9 wx => s9 = .int .i64 p ∧ ∃ ga ca : Nat, Hid (RLp w1 wx w1.heap.size (w1.heap.size + 1) (k + 1) k (.slice (some ⟨ga, 0, none⟩) (k + 1) ca) b (rtk ts by_ (k + 1)) (rtk us by_ k)))
        case first =>
          go_region_law (first | ((refine stepT1 (by rfl) _ _ (by rfl) (by rfl) (own_ext h.out.oa (by with_reducible (repeat (first | exact Ext.refl _ | apply Ext.drewN | apply Ext.drew | apply Ext.alloc | (refine Ext.set ?_ (by first | (simp; done) | (simp; omega) | omega) _) | (refine Ext.trans ?_ (by assumption)))))) (by first | (simp; done) | (simp; omega) | omega) (by omega) (by rfl) (heap_alloc_new _ _) (ys := [.int .i64 xv, .bool xp]) (by rfl) (by rfl) (by simp [Value.oneCell']) ?_); intro v1 w5 hown5 hg5 hv5; rw [← flT_snoc, ← HS1.out] at hown5; obtain ⟨ga, ca, ea, _, _⟩ := World.ownsRow.form hown5 (by omega); subst ea; have HM := h.out.mid (by with_reducible (repeat (first | exact Ext.refl _ | apply Ext.drewN | apply Ext.drew | apply Ext.alloc | (refine Ext.set ?_ (by first | (simp; done) | (simp; omega) | omega) _) | (refine Ext.trans ?_ (by assumption))))) h.out.oa hg5; have m0 := HM.1.1; have m1 := HM.1.2; have mf := HM.2.1.1; have HB5 := Lib.hid (h.out.appA (by with_reducible (repeat (first | exact Ext.refl _ | apply Ext.drewN | apply Ext.drew | apply Ext.alloc | (refine Ext.set ?_ (by first | (simp; done) | (simp; omega) | omega) _) | (refine Ext.trans ?_ (by assumption))))) hown5 hg5 hv5)))
          all_goals
            clear HM hown5 hg5 hv5
            go_wp2_with fail
            go_meet
            exact ⟨rfl, ga, ca, HB5⟩
        case rest =>
          obtain ⟨rfl, ga, ca, HB5⟩ := hcut
          have hP5 := blk_ext hP1 HB5.out.X
          obtain ⟨y1, y2⟩ := HYV.out _ HB5.out.X
          clear q0 q1 f0 f1 k0 k1 kf x1 x2 hPr h
          obtain ⟨⟨q0, q1⟩, f0, f1⟩ := blk2 hP5
          have k0 := HB5.out.k0
          have k1 := HB5.out.k1
          have kf := HB5.out.f
          have ksz5 := HB5.out.sz
          have kl5 : w1.heap.size < wc.heap.size := by omega
          have kl6 : b2 < wc.heap.size := by omega
          have kl7 : w.heap.size < wc.heap.size := by omega
          go_wp2_with fail
          go_region_law (first | ((refine stepT1 (by rfl) _ _ (by rfl) (by rfl) (own_ext HB5.out.ob (by with_reducible (repeat (first | exact Ext.refl _ | apply Ext.drewN | apply Ext.drew | apply Ext.alloc | (refine Ext.set ?_ (by first | (simp; done) | (simp; omega) | omega) _) | (refine Ext.trans ?_ (by assumption)))))) (by first | (simp; done) | (simp; omega) | omega) (by omega) (by rfl) (heap_alloc_new _ _) (ys := [.int .i64 yv, .bool yp]) (by rfl) (by rfl) (by simp [Value.oneCell']) ?_); intro v2 w6 hown6 hg6 hv6; rw [← flT_snoc, ← HS2.out] at hown6; obtain ⟨gb, cb, eb, _, _⟩ := World.ownsRow.form hown6 (by omega); subst eb; have HM := HB5.out.mid (by with_reducible (repeat (first | exact Ext.refl _ | apply Ext.drewN | apply Ext.drew | apply Ext.alloc | (refine Ext.set ?_ (by first | (simp; done) | (simp; omega) | omega) _) | (refine Ext.trans ?_ (by assumption))))) HB5.out.ob hg6; have m0 := HM.1.1; have m1 := HM.1.2; have mf := HM.2.1.1; have HB6 := Lib.hid (HB5.out.appB (by with_reducible (repeat (first | exact Ext.refl _ | apply Ext.drewN | apply Ext.drew | apply Ext.alloc | (refine Ext.set ?_ (by first | (simp; done) | (simp; omega) | omega) _) | (refine Ext.trans ?_ (by assumption))))) hown6 hg6 hv6)))
          all_goals
            clear q0 q1 f0 f1 k0 k1 kf y1 y2 HM m0 m1 mf hown6 hg6 hv6 hP5
            go_wp2
            go_roundw
            case rel => exact ⟨k + 1, _, _, by omega, by go_num, HB6⟩
            case measure => simp [intOf]; omega
      · obtain rfl : k = m := by omega
        obtain ⟨ra, ca, hra, _, _⟩ := World.ownsRow.form h.out.oa (by omega)
        obtain ⟨rb, cb, hrb, _, _⟩ := World.ownsRow.form h.out.ob (by omega)
        subst hra hrb
        have hRr := blk_ext hR1 h.out.X
        obtain ⟨⟨q0, q1⟩, f0, f1⟩ := blk2 hPr
        obtain ⟨⟨r0, r1⟩, s0, s1⟩ := blk2 hRr
        have k0 := h.out.k0
        have k1 := h.out.k1
        have kf := h.out.f
        have ksz := h.out.sz
        have hne1 : ¬ w.heap.size + 1 = w1.heap.size := by omega
        have hTA := ThO.of_own h.out.oa (rtk_len ts by_ k) (by omega)
        have hTB := ThO.of_own h.out.ob (rtk_len us by_ k) (by omega)
        have hXX : Ext w wr := hE1.trans h.out.X
        have HT := Lib.hid (fun u v : Value => (⟨((hTA.far (p := ⟨w.heap.size + 1, 0, none⟩) (by show w.heap.size + 1 < w1.heap.size + 1; omega) u).far (p := ⟨w.heap.size + 1, 1, none⟩) (by show w.heap.size + 1 < w1.heap.size + 1; omega) v).t, ((hTB.far (p := ⟨w.heap.size + 1, 0, none⟩) (by show w.heap.size + 1 < w1.heap.size + 1; omega) u).far (p := ⟨w.heap.size + 1, 1, none⟩) (by show w.heap.size + 1 < w1.heap.size + 1; omega) v).t, (hXX.set (by show w.heap.size ≤ w.heap.size + 1; omega) _).set (by show w.heap.size ≤ w.heap.size + 1; omega) _⟩ : Thr ((wr.setCell ⟨w.heap.size + 1, 0, none⟩ u).setCell ⟨w.heap.size + 1, 1, none⟩ v) _ _ _ ∧ Thr ((wr.setCell ⟨w.heap.size + 1, 0, none⟩ u).setCell ⟨w.heap.size + 1, 1, none⟩ v) _ _ _ ∧ Ext w ((wr.setCell ⟨w.heap.size + 1, 0, none⟩ u).setCell ⟨w.heap.size + 1, 1, none⟩ v)))
        clear hTA hTB hXX h hPr hRr
        go_wp2
        exact bodyPost_ret (v := .tuple #[.agg #[.slice (some ⟨ra, 0, none⟩) k ca, .slice (some ⟨rb, 0, none⟩) k cb], .int .i64 0]) (by simp [results, Try.results20, go_sem, *]) rfl ⟨_, _, _, _, _, _, rfl, (HT.out _ _).1, (HT.out _ _).2.1, (HT.out _ _).2.2⟩
end Go.Proofs.Ytlalaomimfdepaa
