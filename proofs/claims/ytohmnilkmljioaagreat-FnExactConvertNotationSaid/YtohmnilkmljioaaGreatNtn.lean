/- Notations: words, and the laws' size, copy, comparison, mark and held of notations. No condition but the stated bounds. (tools/gntn.py) -/
import Derived.Test.YtohmnilkmljioaaGreatWek
namespace Go.Proofs.YtohmnilkmljioaaGreat
set_option linter.unusedVariables false
set_option linter.unusedSimpArgs false
open Go.ChangeShapes Go.WideShapes Go.ChangeAt Go.RowKit Go.Joins Go.Deep

/-- A notation's own cells. -/
structure NV where
  k : Int
  A : Option Addr
  na : Nat
  ca : Nat
  B : Option Addr
  nb : Nat
  cb : Nat
  S : Option Addr
  ns : Nat
  cs : Nat
  P : Option Addr
  np : Nat
  cp : Nat
  Q : Option Addr
  nq : Nat
  cq : Nat
def NV.val (V : NV) : Value := .agg #[.int .i64 V.k, .slice V.A V.na V.ca, .slice V.B V.nb V.cb, .slice V.S V.ns V.cs, .slice V.P V.np V.cp, .slice V.Q V.nq V.cq]
/-- What a notation holds. -/
structure ND where
  k : Int
  p : List Int
  m : List (List Int)
  s : List (Int × Bool)
  a : List (Int × Bool)
  b : List (Int × Bool)
/-- A notation is read. -/
structure NtR (w : World) (V : NV) (D : ND) : Prop where
  k : V.k = D.k
  p : Ints w V.A V.na D.p
  m : Lists w V.B V.nb D.m
  s : Syn w V.S V.ns D.s
  a : Thr w V.P V.np D.a
  b : Thr w V.Q V.nq D.b
theorem NtR.ext {w w' : World} {V : NV} {D : ND} (h : NtR w V D) (k : Ext w w') : NtR w' V D := ⟨h.k, h.p.ext k, h.m.ext k, h.s.ext k, h.a.ext k, h.b.ext k⟩
/-- A notation whose parts are not too long. -/
structure ND.Sm (D : ND) : Prop where
  p : D.p.length ≤ 1048576
  m : D.m.length ≤ 1048576
  l : ∀ i, i < D.m.length → (ll D.m i).length ≤ 1048576
  s : D.s.length ≤ 2 * 1048576
  a : D.a.length ≤ 1048576
  b : D.b.length ≤ 1048576
/-- The four ranges of blocks lie apart. -/
structure Apart4 (lo hi l0 h0 l1 h1 l2 h2 l3 h3 : Nat) : Prop where
  b0 : lo ≤ l0 ∧ h0 ≤ hi
  b1 : lo ≤ l1 ∧ h1 ≤ hi
  b2 : lo ≤ l2 ∧ h2 ≤ hi
  b3 : lo ≤ l3 ∧ h3 ≤ hi
  a01 : h0 ≤ l1 ∨ h1 ≤ l0
  a02 : h0 ≤ l2 ∨ h2 ≤ l0
  a03 : h0 ≤ l3 ∨ h3 ≤ l0
  a12 : h1 ≤ l2 ∨ h2 ≤ l1
  a13 : h1 ≤ l3 ∨ h3 ≤ l1
  a23 : h2 ≤ l3 ∨ h3 ≤ l2
/-- A notation in memory of a call's own, its parts apart. -/
structure NtO (w : World) (lo hi : Nat) (V : NV) (D : ND) : Prop where
  k : V.k = D.k
  own : ∃ l0 h0 l1 h1 l2 h2 l3 h3, Apart4 lo hi l0 h0 l1 h1 l2 h2 l3 h3 ∧ RowW w l0 h0 V.A V.na V.ca D.p ∧ LRowW w l1 h1 V.B V.nb V.cb D.m ∧ RowSW w l2 h2 V.S V.ns V.cs D.s ∧ PassRW w l3 h3 V.P V.np V.cp V.Q V.nq V.cq D.a D.b
section
variable {w w' : World} {lo hi lo' hi' : Nat} {V : NV} {D : ND}
theorem NtO.ext (h : NtO w lo hi V D) (k : Ext w w') : NtO w' lo hi V D := by
  obtain ⟨l0, h0, l1, h1, l2, h2, l3, h3, ha, r0, r1, r2, r3⟩ := h.own
  exact ⟨h.k, l0, h0, l1, h1, l2, h2, l3, h3, ha, r0.ext k, r1.ext k, r2.ext k, r3.ext k⟩
theorem NtO.held (h : NtO w lo hi V D) (k : Kept lo' hi' w w') (hr : hi ≤ lo' ∨ hi' ≤ lo) : NtO w' lo hi V D := by
  obtain ⟨l0, h0, l1, h1, l2, h2, l3, h3, ha, r0, r1, r2, r3⟩ := h.own
  have hb := ha
  obtain ⟨b0, b1, b2, b3, -⟩ := hb
  exact ⟨h.k, l0, h0, l1, h1, l2, h2, l3, h3, ha, r0.held k (by omega), r1.held k (by omega), r2.held k (by omega), r3.held k (by omega)⟩
theorem NtO.wide (h : NtO w lo hi V D) (e1 : lo' ≤ lo) (e2 : hi ≤ hi') : NtO w lo' hi' V D := by
  obtain ⟨l0, h0, l1, h1, l2, h2, l3, h3, ha, r⟩ := h.own
  obtain ⟨b0, b1, b2, b3, a01, a02, a03, a12, a13, a23⟩ := ha
  exact ⟨h.k, l0, h0, l1, h1, l2, h2, l3, h3, ⟨by omega, by omega, by omega, by omega, a01, a02, a03, a12, a13, a23⟩, r⟩
/-- Numbers of an int64's width. -/
structure ND.Bd (D : ND) : Prop where
  p : ∀ y ∈ D.p, -9223372036854775808 ≤ y ∧ y ≤ 9223372036854775807
  m : bdL D.m
theorem NtO.read (h : NtO w lo hi V D) (hs : D.Sm) (hb : D.Bd) : NtR w V D := by
  obtain ⟨l0, h0, l1, h1, l2, h2, l3, h3, ha, r0, r1, r2, r3⟩ := h.own
  have e0 := r0.len
  have e1 := r1.len
  have e2 := r2.len
  have e3 := r3.lens.1
  have e4 := r3.lens.2
  obtain ⟨s0, s1, s2, s3, s4, s5⟩ := hs
  have i3 := r3.thrs (by omega) (by omega)
  exact ⟨h.k, r0.ints (by omega) hb.p, r1.lists (by omega) hb.m, r2.syn (by omega), i3.1, i3.2⟩
theorem Kept.wide (k : Kept lo hi w w') (h1 : lo' ≤ lo) (h2 : hi ≤ hi') : Kept lo' hi' w w' := ⟨k.os, k.tape, k.output, k.size, fun i hi hr => k.block i hi (by omega)⟩
theorem Kept.set {a b : World} (k : Kept lo hi a b) {p : Addr} (hp : lo ≤ p.block ∧ p.block < hi) (v : Value) : Kept lo hi a (b.setCell p v) :=
  k.trans (Kept.of_grown (row := some p.block) ⟨rfl, rfl, rfl, by simp [World.setCell], fun i hi hne => Below.heap_setCell b p v i (by rintro rfl; exact hne rfl)⟩ (fun g hg => by cases hg; exact hp))
end
/-- What a mark of a notation leaves. -/
def mkD (k : Int) (D : ND) : ND :=
  let f := fun i => (ll D.m i).length
  let k1 := k + D.p.length
  let k2 := k1 + sml f D.m.length
  let k3 := k2 + 2 * D.s.length
  ⟨D.k, marks k D.p.length, mkL k1 D.m.length f, mkT k2 D.s.length, mkT k3 D.a.length, mkT (k3 + 2 * D.a.length) D.b.length⟩
/-- .. and the number behind it. -/
def mkE (k : Int) (D : ND) : Int := k + D.p.length + sml (fun i => (ll D.m i).length) D.m.length + 2 * D.s.length + 2 * D.a.length + 2 * D.b.length
set_option maxHeartbeats 2000000 in
theorem szNotation_left (V : NV) (D : ND) (r : Int) (w : World) (hI : NtR w V D) (hr : 0 ≤ r ∧ r ≤ 1048576) :
    Calls Tryz.prog 4 #[V.val, .int .i64 r] w (Left D.Sm w) := by
  obtain ⟨k, A, na, ca, B, nb, cb, S, ns, cs, P, np, cp, Q, nq, cq⟩ := V
  obtain ⟨kk, dp, dm, ds, da, db⟩ := D
  obtain ⟨hk, hp, hm, hs, ha, hb⟩ := hI
  unfold NV.val
  dsimp only at *
  have hp1 := hp.small
  have hs1 := hs.small
  have ha1 := ha.small
  have hb1 := hb.small
  have lp := hp.len
  have lm := hm.len
  have ls := hs.len
  have la := ha.len
  have lb := hb.len
  go_enter Tryz.func4, Tryz.ntmps4
  go_wp2_with fail
  (with_reducible refine (szInt64S_left A na ca r _ hp1 hr).mono ?_)
  rintro e w1 ⟨r1, rfl, hr1, hx1⟩
  have hz1 := hx1.size
  (try simp [World.setCell] at hz1)
  have q10 : w.heap.size < w1.heap.size := by omega
  have k10 : ∀ o, w1.cell? ⟨w.heap.size, o, none⟩ = _ := fun o => hx1.cells.1 _ o (by first | (simp [World.setCell]; done) | (simp [World.setCell]; omega) | omega)
  have f10 : ∀ o, w1.frozen? ⟨w.heap.size, o, none⟩ = _ := fun o => hx1.cells.2 _ o (by first | (simp [World.setCell]; done) | (simp [World.setCell]; omega) | omega)
  have hE1 : Ext w w1 := Ext.trans (by with_reducible (repeat (first | exact Ext.refl _ | apply Ext.drewN | apply Ext.drew | apply Ext.alloc | (refine Ext.set ?_ (by first | (simp; done) | (simp; omega) | omega) _) | (refine Ext.trans ?_ (by assumption))))) hx1
  clear hx1
  by_cases n1 : r1 < 0
  · go_wp2
    go_ret
    exact ⟨-1, rfl, .inl (by omega), hE1⟩
  have g1 := hr1.resolve_left n1
  have g1' : 0 ≤ r1 ∧ r1 ≤ 1048576 := ⟨g1.1, g1.2.1⟩
  clear hr1
  go_wp2_with fail
  (with_reducible refine (szMulti_left B nb cb dm r1 _ (hm.ext hE1) g1').mono ?_)
  rintro e w2 ⟨r2, rfl, hr2, hx2⟩
  have hz2 := hx2.size
  (try simp [World.setCell] at hz2)
  have q20 : w.heap.size < w2.heap.size := by omega
  have k20 : ∀ o, w2.cell? ⟨w.heap.size, o, none⟩ = _ := fun o => hx2.cells.1 _ o (by first | (simp [World.setCell]; done) | (simp [World.setCell]; omega) | omega)
  have f20 : ∀ o, w2.frozen? ⟨w.heap.size, o, none⟩ = _ := fun o => hx2.cells.2 _ o (by first | (simp [World.setCell]; done) | (simp [World.setCell]; omega) | omega)
  have hE2 : Ext w w2 := hE1.trans hx2
  clear hx2
  by_cases n2 : r2 < 0
  · go_wp2
    go_ret
    exact ⟨-1, rfl, .inl (by omega), hE2⟩
  have g2 := hr2.resolve_left n2
  have g2' : 0 ≤ r2 ∧ r2 ≤ 1048576 := ⟨g2.1, g2.2.1⟩
  clear hr2
  go_wp2_with fail
  (with_reducible refine (szSyncBeatS_any S ns cs r2 _ hs1 g2').mono ?_)
  rintro e w3 ⟨rfl, rfl⟩
  by_cases n3 : r2 < ns
  · rw [if_pos n3]
    go_wp2
    go_ret
    exact ⟨-1, rfl, .inl (by omega), hE2⟩
  rw [if_neg n3]
  have g3 : 0 ≤ r2 - (ns : Int) ∧ r2 - (ns : Int) ≤ 1048576 := by omega
  have n3' : ¬ r2 - (ns : Int) < 0 := by omega
  go_wp2_with fail
  (with_reducible refine (szPassing_any P Q np nq cp cq (r2 - ns) _ ha1 hb1 g3).mono ?_)
  rintro e w4 ⟨r4, rfl, hr4, hx4⟩
  have hE4 : Ext w w4 := hE2.trans hx4
  clear hx4
  by_cases n4 : r4 < 0
  · go_wp2
    go_ret
    exact ⟨-1, rfl, .inl (by omega), hE4⟩
  have g4 := hr4.resolve_left n4
  go_wp2
  go_ret
  refine ⟨r4, rfl, .inr ⟨g4.1, g4.2.1, ?_⟩, hE4⟩
  have l2 := g2.2.2.2
  exact ⟨by dsimp only; omega, by dsimp only; omega, fun i hi => l2 i (by dsimp only at hi; omega), by dsimp only; omega, by dsimp only; omega, by dsimp only; omega⟩
set_option maxHeartbeats 4000000 in
theorem eqNotation_same (V U : NV) (D : ND) (w : World) (hI : NtR w V D) (hJ : NtR w U D) :
    Calls Tryz.prog 8 #[V.val, U.val] w (fun e w' => e = .returned (.bool true) ∧ Ext w w') := by
  obtain ⟨k, A, na, ca, B, nb, cb, S, ns, cs, P, np, cp, Q, nq, cq⟩ := V
  obtain ⟨k', A', na', ca', B', nb', cb', S', ns', cs', P', np', cp', Q', nq', cq'⟩ := U
  obtain ⟨kk, dp, dm, ds, da, db⟩ := D
  obtain ⟨hk, hp, hm, hs, ha, hb⟩ := hI
  obtain ⟨jk, jp, jm, js, ja, jb⟩ := hJ
  unfold NV.val
  dsimp only at *
  obtain rfl : na = na' := hp.len.symm.trans jp.len
  obtain rfl : nb = nb' := hm.len.symm.trans jm.len
  obtain rfl : ns = ns' := by have := hs.len; have := js.len; omega
  obtain rfl : np = np' := ha.len.symm.trans ja.len
  obtain rfl : nq = nq' := hb.len.symm.trans jb.len
  subst hk
  subst jk
  go_enter Tryz.func8, Tryz.ntmps8
  go_wp2_with fail
  (with_reducible refine (eqInt64S_same A A' na ca ca' dp _ (hp.ext (by with_reducible (repeat (first | exact Ext.refl _ | apply Ext.drewN | apply Ext.drew | apply Ext.alloc | (refine Ext.set ?_ (by first | (simp; done) | (simp; omega) | omega) _) | (refine Ext.trans ?_ (by assumption)))))) (jp.ext (by with_reducible (repeat (first | exact Ext.refl _ | apply Ext.drewN | apply Ext.drew | apply Ext.alloc | (refine Ext.set ?_ (by first | (simp; done) | (simp; omega) | omega) _) | (refine Ext.trans ?_ (by assumption))))))).mono ?_)
  rintro e w1 ⟨rfl, nq1, rfl⟩
  go_wp2_with fail
  (with_reducible refine (eqMulti_same B B' nb cb cb' dm _ (hm.ext (by with_reducible (repeat (first | exact Ext.refl _ | apply Ext.drewN | apply Ext.drew | apply Ext.alloc | (refine Ext.set ?_ (by first | (simp; done) | (simp; omega) | omega) _) | (refine Ext.trans ?_ (by assumption)))))) (jm.ext (by with_reducible (repeat (first | exact Ext.refl _ | apply Ext.drewN | apply Ext.drew | apply Ext.alloc | (refine Ext.set ?_ (by first | (simp; done) | (simp; omega) | omega) _) | (refine Ext.trans ?_ (by assumption))))))).mono ?_)
  rintro e w2 ⟨rfl, hx2⟩
  have hz2 := hx2.size
  (try simp [World.setCell] at hz2)
  have q20 : w.heap.size < w2.heap.size := by omega
  have k20 : ∀ o, w2.cell? ⟨w.heap.size, o, none⟩ = _ := fun o => hx2.cells.1 _ o (by first | (simp [World.setCell]; done) | (simp [World.setCell]; omega) | omega)
  have f20 : ∀ o, w2.frozen? ⟨w.heap.size, o, none⟩ = _ := fun o => hx2.cells.2 _ o (by first | (simp [World.setCell]; done) | (simp [World.setCell]; omega) | omega)
  have q21 : w.heap.size + 1 < w2.heap.size := by omega
  have k21 : ∀ o, w2.cell? ⟨w.heap.size + 1, o, none⟩ = _ := fun o => hx2.cells.1 _ o (by first | (simp [World.setCell]; done) | (simp [World.setCell]; omega) | omega)
  have f21 : ∀ o, w2.frozen? ⟨w.heap.size + 1, o, none⟩ = _ := fun o => hx2.cells.2 _ o (by first | (simp [World.setCell]; done) | (simp [World.setCell]; omega) | omega)
  have hE2 : Ext w w2 := Ext.trans (by with_reducible (repeat (first | exact Ext.refl _ | apply Ext.drewN | apply Ext.drew | apply Ext.alloc | (refine Ext.set ?_ (by first | (simp; done) | (simp; omega) | omega) _) | (refine Ext.trans ?_ (by assumption))))) hx2
  clear hx2
  go_wp2_with fail
  (with_reducible refine (eqSyncBeatS_same S S' ns cs cs' ds _ (hs.ext hE2) (js.ext hE2)).mono ?_)
  rintro e w3 ⟨rfl, hx3⟩
  have hz3 := hx3.size
  (try simp [World.setCell] at hz3)
  have q30 : w.heap.size < w3.heap.size := by omega
  have k30 : ∀ o, w3.cell? ⟨w.heap.size, o, none⟩ = _ := fun o => hx3.cells.1 _ o (by first | (simp [World.setCell]; done) | (simp [World.setCell]; omega) | omega)
  have f30 : ∀ o, w3.frozen? ⟨w.heap.size, o, none⟩ = _ := fun o => hx3.cells.2 _ o (by first | (simp [World.setCell]; done) | (simp [World.setCell]; omega) | omega)
  have q31 : w.heap.size + 1 < w3.heap.size := by omega
  have k31 : ∀ o, w3.cell? ⟨w.heap.size + 1, o, none⟩ = _ := fun o => hx3.cells.1 _ o (by first | (simp [World.setCell]; done) | (simp [World.setCell]; omega) | omega)
  have f31 : ∀ o, w3.frozen? ⟨w.heap.size + 1, o, none⟩ = _ := fun o => hx3.cells.2 _ o (by first | (simp [World.setCell]; done) | (simp [World.setCell]; omega) | omega)
  have hE3 : Ext w w3 := hE2.trans hx3
  clear hx3
  go_wp2_with fail
  (with_reducible refine (eqPassing_same P P' np cp cp' Q Q' nq cq cq' da db _ (ha.ext hE3) (ja.ext hE3) (hb.ext hE3) (jb.ext hE3)).mono ?_)
  rintro e w4 ⟨rfl, hx4⟩
  have hE4 : Ext w w4 := hE3.trans hx4
  clear hx4
  go_wp2
  go_ret
  exact ⟨rfl, hE4⟩
/-- What a mark of a notation does. -/
def MarkdN (w : World) (lo hi : Nat) (V : NV) (D : ND) (k : Int) (en : Ending) (w' : World) : Prop :=
  en = .returned (.int .i64 (mkE k D)) ∧ Kept lo hi w w' ∧ NtO w' lo hi V (mkD k D)
set_option maxHeartbeats 4000000 in
theorem markNotation_own (lo hi : Nat) (V : NV) (D : ND) (k : Int) (w : World) (hO : NtO w lo hi V D) (hS : D.Sm) (hh : hi ≤ w.heap.size) (hk : 0 ≤ k ∧ k ≤ 800000000000) :
    Calls Tryz.prog 9 #[V.val, .int .i64 k] w (MarkdN w lo hi V D k) := by
  obtain ⟨hkk, l0, h0, l1, h1, l2, h2, l3, h3, hA, r0, r1, r2, r3⟩ := hO
  obtain ⟨kk, A, na, ca, B, nb, cb, S, ns, cs, P, np, cp, Q, nq, cq⟩ := V
  obtain ⟨dk, dp, dm, ds, da, db⟩ := D
  obtain ⟨sp, sm, sl, ss, sa, sb⟩ := hS
  dsimp only at *
  have lp := r0.len
  have lm := r1.len
  have ls := r2.len
  have la := r3.lens.1
  have lb := r3.lens.2
  obtain ⟨f, hf⟩ : ∃ f : Nat → Nat, (fun i => (ll dm i).length) = f := ⟨_, rfl⟩
  have HF : Hid (∀ i, i < nb → (ll dm i).length = f i ∧ f i ≤ 1048576) := fun i hi => by rw [← hf]; exact ⟨rfl, sl i (by omega)⟩
  have hsb := sml_lt (f := f) (n := nb) (fun i hi => (HF.out i hi).2) (by omega) (Nat.le_refl _)
  have HG : Hid (∀ W : World, Kept lo hi w W → RowW W l0 h0 A na ca (marks k na) → LRowW W l1 h1 B nb cb (mkL (k + na) nb f) → RowSW W l2 h2 S ns cs (mkT (k + na + sml f nb) (2 * ns)) →
      PassRW W l3 h3 P np cp Q nq cq (mkT (k + na + sml f nb + 4 * ns) np) (mkT (k + na + sml f nb + 4 * ns + 2 * np) nq) →
      MarkdN w lo hi ⟨kk, A, na, ca, B, nb, cb, S, ns, cs, P, np, cp, Q, nq, cq⟩ ⟨dk, dp, dm, ds, da, db⟩ k (.returned (.int .i64 (k + na + sml f nb + 4 * ns + 2 * np + 2 * nq))) W) := fun W hW q0 q1 q2 q3 => by
    have e1 : dp.length = na := by omega
    have e2 : (2 : Int) * (ds.length : Int) = 4 * ns := by omega
    refine ⟨?_, hW, hkk, l0, h0, l1, h1, l2, h2, l3, h3, hA, ?_, ?_, ?_, ?_⟩
    · unfold mkE; dsimp only; rw [hf, e1, lm, e2, la, lb]
    · unfold mkD; dsimp only; rw [e1]; exact q0
    · unfold mkD; dsimp only; rw [hf, e1, lm]; exact q1
    · unfold mkD; dsimp only; rw [hf, e1, lm, ls]; exact q2
    · unfold mkD; dsimp only; rw [hf, e1, lm, e2, la, lb]; exact q3
  obtain ⟨b0, b1, b2, b3, a01, a02, a03, a12, a13, a23⟩ := hA
  clear sl hf
  unfold NV.val
  dsimp only
  obtain ⟨z, hz⟩ : ∃ z, sml f nb = z := ⟨_, rfl⟩
  rw [hz] at hsb HG
  go_enter Tryz.func9, Tryz.ntmps9
  go_wp2_with fail
  (with_reducible refine (markInt64S_w l0 h0 A na ca k dp _ (r0.ext (by with_reducible (repeat (first | exact Ext.refl _ | apply Ext.drewN | apply Ext.drew | apply Ext.alloc | (refine Ext.set ?_ (by first | (simp; done) | (simp; omega) | omega) _) | (refine Ext.trans ?_ (by assumption)))))) (by omega) (by omega)).mono ?_)
  rintro e w1 ⟨rfl, g1, R1⟩
  have hz1 := g1.size
  (try simp at hz1)
  have q1 : w.heap.size < w1.heap.size := by omega
  have k1 : ∀ o, w1.cell? ⟨w.heap.size, o, none⟩ = _ := fun o => World.cell?_of_block (g1.block w.heap.size (by simp) (by omega))
  have c1 : Kept l0 h0 w w1 := (Kept.of_ext (by with_reducible (repeat (first | exact Ext.refl _ | apply Ext.drewN | apply Ext.drew | apply Ext.alloc | (refine Ext.set ?_ (by first | (simp; done) | (simp; omega) | omega) _) | (refine Ext.trans ?_ (by assumption)))))).trans g1
  have m1 := r1.held c1 (by omega)
  have m2 := r2.held c1 (by omega)
  have m3 := r3.held c1 (by omega)
  clear r0 r1 r2 r3 g1
  have bk1 : 0 ≤ k + (na : Int) ∧ k + (na : Int) ≤ 2000000000000 := by omega
  go_wp2_with fail
  (with_reducible refine (markMulti_w l1 h1 B nb cb (k + na) dm _ m1 bk1 (by omega) f HF.out).mono ?_)
  rintro e w2 ⟨rfl, c2, R2⟩
  rw [hz]
  have hz2 := c2.size
  (try simp at hz2)
  have q2 : w.heap.size < w2.heap.size := by omega
  have k2 : ∀ o, w2.cell? ⟨w.heap.size, o, none⟩ = _ := fun o => World.cell?_of_block (c2.block w.heap.size q1 (by omega))
  have n0 := R1.held c2 (by omega)
  have n2 := m2.held c2 (by omega)
  have n3 := m3.held c2 (by omega)
  clear R1 m1 m2 m3
  have bk2 : 0 ≤ k + (na : Int) + z ∧ k + (na : Int) + z ≤ 2000000000000 := by omega
  go_wp2_with fail
  (with_reducible refine (markSyncBeatS_w l2 h2 S ns cs (k + na + z) ds _ n2 bk2 (by omega)).mono ?_)
  rintro e w3 ⟨rfl, g3, R3⟩
  have hz3 := g3.size
  (try simp at hz3)
  have c3 : Kept l2 h2 w2 w3 := g3
  have q3 : w.heap.size < w3.heap.size := by omega
  have k3 : ∀ o, w3.cell? ⟨w.heap.size, o, none⟩ = _ := fun o => World.cell?_of_block (c3.block w.heap.size q2 (by omega))
  have p0 := n0.held c3 (by omega)
  have p1 := R2.held c3 (by omega)
  have p3 := n3.held c3 (by omega)
  clear n0 R2 n2 n3 g3
  have bk3 : 0 ≤ k + (na : Int) + z + 4 * (ns : Int) ∧ k + (na : Int) + z + 4 * (ns : Int) ≤ 2000000000000 := by omega
  go_wp2_with fail
  (with_reducible refine (markPassing_w l3 h3 P np cp Q nq cq (k + na + z + 4 * ns) da db _ p3 bk3 (by omega) (by omega) (by omega)).mono ?_)
  rintro e w4 ⟨rfl, c4, R4⟩
  have HT := Lib.hid (HG.out w4 (((c1.wide b0.1 b0.2).trans (c2.wide b1.1 b1.2)).trans ((c3.wide b2.1 b2.2).trans (c4.wide b3.1 b3.2))) (p0.held c4 (by omega)) (p1.held c4 (by omega)) (R3.held c4 (by omega)) R4)
  clear p0 p1 p3 R3 R4
  go_wp2
  go_ret
  exact HT.out
set_option maxHeartbeats 4000000 in
theorem heldNotation_any (V : NV) (D : ND) (k : Int) (w : World) (hI : NtR w V (mkD k D)) (hS : D.Sm) (hk : 0 ≤ k ∧ k ≤ 800000000000) (hs2 : D.s.length % 2 = 0) :
    Calls Tryz.prog 10 #[V.val, .int .i64 k] w (fun e w' => e = .returned (.int .i64 (mkE k D)) ∧ Ext w w') := by
  obtain ⟨kk, A, na, ca, B, nb, cb, S, ns, cs, P, np, cp, Q, nq, cq⟩ := V
  obtain ⟨dk, dp, dm, ds, da, db⟩ := D
  obtain ⟨sp, sm, sl, ss, sa, sb⟩ := hS
  obtain ⟨hkk, r0, r1, r2, r3, r4⟩ := hI
  unfold mkD mkE at *
  dsimp only at *
  have lp := r0.len
  have lm := r1.len
  have ls := r2.len
  have la := r3.len
  have lb := r4.len
  rw [marks_len] at lp
  rw [mkL_len] at lm
  rw [mkT_len] at ls la lb
  obtain ⟨f, hf⟩ : ∃ f : Nat → Nat, (fun i => (ll dm i).length) = f := ⟨_, rfl⟩
  have HF : Hid (∀ i, i < nb → f i ≤ 1048576) := fun i hi => by rw [← hf]; exact sl i (by omega)
  rw [hf] at r1 r2 r3 r4 ⊢
  have hsb := sml_lt (f := f) (n := nb) HF.out (by omega) (Nat.le_refl _)
  have e2 : (2 : Int) * (ds.length : Int) = 4 * ns := by omega
  rw [lp, lm, e2, la, lb]
  rw [lp] at r0
  rw [lp, lm] at r1
  rw [lp, lm, ls] at r2
  rw [lp, lm, e2, la] at r3
  rw [lp, lm, e2, la, lb] at r4
  clear sl hf e2 hs2
  obtain ⟨z, hz⟩ : ∃ z, sml f nb = z := ⟨_, rfl⟩
  rw [hz] at hsb r2 r3 r4 ⊢
  have bk1 : 0 ≤ k + (na : Int) ∧ k + (na : Int) ≤ 2000000000000 := by omega
  have bk2 : 0 ≤ k + (na : Int) + z ∧ k + (na : Int) + z ≤ 2000000000000 := by omega
  have bk3 : 0 ≤ k + (na : Int) + z + 4 * (ns : Int) ∧ k + (na : Int) + z + 4 * (ns : Int) ≤ 2000000000000 := by omega
  have b1 : ¬ k + (na : Int) < 0 := by omega
  have b2 : ¬ k + (na : Int) + z < 0 := by omega
  have b3 : ¬ k + (na : Int) + z + 4 * (ns : Int) < 0 := by omega
  have b4 : ¬ k + (na : Int) + z + 4 * (ns : Int) + 2 * (np : Int) + 2 * (nq : Int) < 0 := by omega
  have R0 : Hid (∀ W, Ext w W → Ints W A (na * 1) (marks k (na * 1))) := fun W hW => by rw [Nat.mul_one]; exact r0.ext hW
  clear r0
  unfold NV.val
  dsimp only
  go_enter Tryz.func10, Tryz.ntmps10
  go_wp2_with fail
  (with_reducible refine (heldInt64S_is A na ca k (k + na) _ (R0.out _ (by with_reducible (repeat (first | exact Ext.refl _ | apply Ext.drewN | apply Ext.drew | apply Ext.alloc | (refine Ext.set ?_ (by first | (simp; done) | (simp; omega) | omega) _) | (refine Ext.trans ?_ (by assumption)))))) (by omega) (by omega) (by simp)).mono ?_)
  rintro e w1 ⟨rfl, nq1, rfl⟩
  go_wp2_with fail
  (with_reducible refine (heldMulti_any B nb cb f (k + na) _ (r1.ext (by with_reducible (repeat (first | exact Ext.refl _ | apply Ext.drewN | apply Ext.drew | apply Ext.alloc | (refine Ext.set ?_ (by first | (simp; done) | (simp; omega) | omega) _) | (refine Ext.trans ?_ (by assumption)))))) bk1 (by omega) HF.out).mono ?_)
  rintro e w2 ⟨rfl, hx2⟩
  rw [hz]
  have hz2 := hx2.size
  (try simp [World.setCell] at hz2)
  have q20 : w.heap.size < w2.heap.size := by omega
  have k20 : ∀ o, w2.cell? ⟨w.heap.size, o, none⟩ = _ := fun o => hx2.cells.1 _ o (by first | (simp [World.setCell]; done) | (simp [World.setCell]; omega) | omega)
  have f20 : ∀ o, w2.frozen? ⟨w.heap.size, o, none⟩ = _ := fun o => hx2.cells.2 _ o (by first | (simp [World.setCell]; done) | (simp [World.setCell]; omega) | omega)
  have hE2 : Ext w w2 := Ext.trans (by with_reducible (repeat (first | exact Ext.refl _ | apply Ext.drewN | apply Ext.drew | apply Ext.alloc | (refine Ext.set ?_ (by first | (simp; done) | (simp; omega) | omega) _) | (refine Ext.trans ?_ (by assumption))))) hx2
  clear hx2
  go_wp2_with fail
  (with_reducible refine (heldSyncBeatS_any S ns cs (k + na + z) _ (r2.ext hE2) bk2 (by omega)).mono ?_)
  rintro e w3 ⟨rfl, hx3⟩
  have hz3 := hx3.size
  (try simp [World.setCell] at hz3)
  have q30 : w.heap.size < w3.heap.size := by omega
  have k30 : ∀ o, w3.cell? ⟨w.heap.size, o, none⟩ = _ := fun o => hx3.cells.1 _ o (by first | (simp [World.setCell]; done) | (simp [World.setCell]; omega) | omega)
  have f30 : ∀ o, w3.frozen? ⟨w.heap.size, o, none⟩ = _ := fun o => hx3.cells.2 _ o (by first | (simp [World.setCell]; done) | (simp [World.setCell]; omega) | omega)
  have hE3 : Ext w w3 := hE2.trans hx3
  clear hx3
  go_wp2_with fail
  (with_reducible refine (heldPassing_any P Q np cp nq cq (k + na + z + 4 * ns) _ (r3.ext hE3) (r4.ext hE3) bk3 (by omega) (by omega)).mono ?_)
  rintro e w4 ⟨rfl, hx4⟩
  have hE4 : Ext w w4 := hE3.trans hx4
  clear hx4
  go_wp2
  go_ret
  exact ⟨rfl, hE4⟩
end Go.Proofs.YtohmnilkmljioaaGreat
