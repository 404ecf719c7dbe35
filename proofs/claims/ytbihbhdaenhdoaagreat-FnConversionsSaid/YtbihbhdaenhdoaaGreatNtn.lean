/- Notations: words, and the laws' size, copy, comparison, mark and held of notations. No condition but the stated bounds. (tools/gntn.py) -/
import Derived.Test.YtbihbhdaenhdoaaGreatWek
namespace Go.Proofs.YtbihbhdaenhdoaaGreat
set_option linter.unusedVariables false
set_option linter.unusedSimpArgs false
open Go.ChangeShapes Go.WideShapes Go.ChangeAt Go.RowKit Go.Joins Go.Deep

/-- A notation's own cells. -/
structure NV where
  k : Int
  A : Option Addr
  na : Nat
  ca : Nat
  B : Option Addr
  nb : Nat
  cb : Nat
  S : Option Addr
  ns : Nat
  cs : Nat
  P : Option Addr
  np : Nat
  cp : Nat
  Q : Option Addr
  nq : Nat
  cq : Nat
def NV.val (V : NV) : Value := .agg #[.int .i64 V.k, .slice V.A V.na V.ca, .slice V.B V.nb V.cb, .slice V.S V.ns V.cs, .slice V.P V.np V.cp, .slice V.Q V.nq V.cq]
/-- What a notation holds. -/
structure ND where
  k : Int
  p : List Int
  m : List (List Int)
  s : List (Int × Bool)
  a : List (Int × Bool)
  b : List (Int × Bool)
/-- A notation is read. -/
structure NtR (w : World) (V : NV) (D : ND) : Prop where
  k : V.k = D.k
  p : Ints w V.A V.na D.p
  m : Lists w V.B V.nb D.m
  s : Syn w V.S V.ns D.s
  a : Thr w V.P V.np D.a
  b : Thr w V.Q V.nq D.b
theorem NtR.ext {w w' : World} {V : NV} {D : ND} (h : NtR w V D) (k : Ext w w') : NtR w' V D := ⟨h.k, h.p.ext k, h.m.ext k, h.s.ext k, h.a.ext k, h.b.ext k⟩
/-- A notation whose parts are not too long. -/
structure ND.Sm (D : ND) : Prop where
  p : D.p.length ≤ 1048576
  m : D.m.length ≤ 1048576
  l : ∀ i, i < D.m.length → (ll D.m i).length ≤ 1048576
  s : D.s.length ≤ 2 * 1048576
  a : D.a.length ≤ 1048576
  b : D.b.length ≤ 1048576
/-- The four ranges of blocks lie apart. -/
structure Apart4 (lo hi l0 h0 l1 h1 l2 h2 l3 h3 : Nat) : Prop where
  b0 : lo ≤ l0 ∧ h0 ≤ hi
  b1 : lo ≤ l1 ∧ h1 ≤ hi
  b2 : lo ≤ l2 ∧ h2 ≤ hi
  b3 : lo ≤ l3 ∧ h3 ≤ hi
  a01 : h0 ≤ l1 ∨ h1 ≤ l0
  a02 : h0 ≤ l2 ∨ h2 ≤ l0
  a03 : h0 ≤ l3 ∨ h3 ≤ l0
  a12 : h1 ≤ l2 ∨ h2 ≤ l1
  a13 : h1 ≤ l3 ∨ h3 ≤ l1
  a23 : h2 ≤ l3 ∨ h3 ≤ l2
/-- A notation in memory of a call's own, its parts apart. -/
structure NtO (w : World) (lo hi : Nat) (V : NV) (D : ND) : Prop where
  k : V.k = D.k
  own : ∃ l0 h0 l1 h1 l2 h2 l3 h3, Apart4 lo hi l0 h0 l1 h1 l2 h2 l3 h3 ∧ RowW w l0 h0 V.A V.na V.ca D.p ∧ LRowW w l1 h1 V.B V.nb V.cb D.m ∧ RowSW w l2 h2 V.S V.ns V.cs D.s ∧ PassRW w l3 h3 V.P V.np V.cp V.Q V.nq V.cq D.a D.b
section
variable {w w' : World} {lo hi lo' hi' : Nat} {V : NV} {D : ND}
theorem NtO.ext (h : NtO w lo hi V D) (k : Ext w w') : NtO w' lo hi V D := by
  obtain ⟨l0, h0, l1, h1, l2, h2, l3, h3, ha, r0, r1, r2, r3⟩ := h.own
  exact ⟨h.k, l0, h0, l1, h1, l2, h2, l3, h3, ha, r0.ext k, r1.ext k, r2.ext k, r3.ext k⟩
theorem NtO.held (h : NtO w lo hi V D) (k : Kept lo' hi' w w') (hr : hi ≤ lo' ∨ hi' ≤ lo) : NtO w' lo hi V D := by
  obtain ⟨l0, h0, l1, h1, l2, h2, l3, h3, ha, r0, r1, r2, r3⟩ := h.own
  have hb := ha
  obtain ⟨b0, b1, b2, b3, -⟩ := hb
  exact ⟨h.k, l0, h0, l1, h1, l2, h2, l3, h3, ha, r0.held k (by omega), r1.held k (by omega), r2.held k (by omega), r3.held k (by omega)⟩
theorem NtO.wide (h : NtO w lo hi V D) (e1 : lo' ≤ lo) (e2 : hi ≤ hi') : NtO w lo' hi' V D := by
  obtain ⟨l0, h0, l1, h1, l2, h2, l3, h3, ha, r⟩ := h.own
  obtain ⟨b0, b1, b2, b3, a01, a02, a03, a12, a13, a23⟩ := ha
  exact ⟨h.k, l0, h0, l1, h1, l2, h2, l3, h3, ⟨by omega, by omega, by omega, by omega, a01, a02, a03, a12, a13, a23⟩, r⟩
/-- Numbers of an int64's width. -/
structure ND.Bd (D : ND) : Prop where
  p : ∀ y ∈ D.p, -9223372036854775808 ≤ y ∧ y ≤ 9223372036854775807
  m : bdL D.m
theorem NtO.read (h : NtO w lo hi V D) (hs : D.Sm) (hb : D.Bd) : NtR w V D := by
  obtain ⟨l0, h0, l1, h1, l2, h2, l3, h3, ha, r0, r1, r2, r3⟩ := h.own
  have e0 := r0.len
  have e1 := r1.len
  have e2 := r2.len
  have e3 := r3.lens.1
  have e4 := r3.lens.2
  obtain ⟨s0, s1, s2, s3, s4, s5⟩ := hs
  have i3 := r3.thrs (by omega) (by omega)
  exact ⟨h.k, r0.ints (by omega) hb.p, r1.lists (by omega) hb.m, r2.syn (by omega), i3.1, i3.2⟩
theorem Kept.wide (k : Kept lo hi w w') (h1 : lo' ≤ lo) (h2 : hi ≤ hi') : Kept lo' hi' w w' := ⟨k.os, k.tape, k.output, k.size, fun i hi hr => k.block i hi (by omega)⟩
theorem Kept.set {a b : World} (k : Kept lo hi a b) {p : Addr} (hp : lo ≤ p.block ∧ p.block < hi) (v : Value) : Kept lo hi a (b.setCell p v) :=
  k.trans (Kept.of_grown (row := some p.block) ⟨rfl, rfl, rfl, by simp [World.setCell], fun i hi hne => Below.heap_setCell b p v i (by rintro rfl; exact hne rfl)⟩ (fun g hg => by cases hg; exact hp))
end
/-- What a mark of a notation leaves. -/
def mkD (k : Int) (D : ND) : ND :=
  let f := fun i => (ll D.m i).length
  let k1 := k + D.p.length
  let k2 := k1 + sml f D.m.length
  let k3 := k2 + 2 * D.s.length
  ⟨D.k, marks k D.p.length, mkL k1 D.m.length f, mkT k2 D.s.length, mkT k3 D.a.length, mkT (k3 + 2 * D.a.length) D.b.length⟩
/-- .. and the number behind it. -/
def mkE (k : Int) (D : ND) : Int := k + D.p.length + sml (fun i => (ll D.m i).length) D.m.length + 2 * D.s.length + 2 * D.a.length + 2 * D.b.length
end Go.Proofs.YtbihbhdaenhdoaaGreat
