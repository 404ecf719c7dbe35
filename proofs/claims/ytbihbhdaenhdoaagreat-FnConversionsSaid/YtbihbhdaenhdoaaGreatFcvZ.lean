/- The statement of laws.FnConversions: for every input the call returns true and its arguments read as before. No condition. -/
import Derived.Test.YtbihbhdaenhdoaaGreatFj4
namespace Go.Proofs.YtbihbhdaenhdoaaGreat.fnConversions
set_option linter.unusedVariables false
set_option linter.unusedSimpArgs false
open Go.ChangeShapes Go.WideShapes Go.ChangeAt Go.RowKit Go.Joins Go.Deep
set_option maxHeartbeats 32000000 in
set_option maxRecDepth 100000 in
theorem walk (A : Option Addr) (n c : Nat) (xs : List Int) (w : World) (hB : Byts w A n xs) :
    Calls Tryz.prog 3 #[.slice A n c] w fun e w' => e = .returned (.bool true) ∧ Below w.heap.size w w' := by
  have hsn := hB.small
  cases hl : decide (4096 < n)
  rotate_left
  · have HL := Lib.hid hl
    clear hl
    go_enter Tryz.func3, Tryz.ntmps3
    go_wp2_with fail
    (with_reducible refine (f6bigC_any _ _ _ _ hsn).mono ?_)
    rw [HL.out]
    rintro e w' ⟨rfl, rfl⟩
    go_wp2
    go_ret
    exact ⟨rfl, Ext.below (Ext.refl _)⟩
  have HL := Lib.hid hl
  clear hl
  have HBY := Lib.hid hB
  clear hB
  go_enter Tryz.func3, Tryz.ntmps3
  go_wp2_with fail
  (with_reducible refine (f6bigC_any _ _ _ _ hsn).mono ?_)
  rw [HL.out]
  rintro e w' ⟨rfl, rfl⟩
  clear HL hsn
  go_wp2_with fail
  (with_reducible refine (DrawConvertNotation_any A n c xs _ (HBY.out.ext (by with_reducible (repeat (first | exact Ext.refl _ | apply Ext.drewN | apply Ext.drew | apply Ext.alloc | (refine Ext.set ?_ (by first | (simp; done) | (simp; omega) | omega) _) | (refine Ext.trans ?_ (by assumption))))))).mono ?_)
  rintro e w1 ⟨V, D1, q, rfl, hI⟩
  have hp : Ext w w1 := Ext.trans (by with_reducible (repeat (first | exact Ext.refl _ | apply Ext.drewN | apply Ext.drew | apply Ext.alloc | (refine Ext.set ?_ (by first | (simp; done) | (simp; omega) | omega) _) | (refine Ext.trans ?_ (by assumption))))) hI.x
  have hE' : Hid (Ext w w1) := hp
  have hE := hE'
  clear hE'
  obtain ⟨k1, A1, na1, ca1, B1, nb1, cb1, S1, ns1, cs1, P1, np1, cp1, Q1, nq1, cq1⟩ := V
  unfold NV.val
  dsimp only
  have Rn : Hid (NtR w1 ⟨k1, A1, na1, ca1, B1, nb1, cb1, S1, ns1, cs1, P1, np1, cp1, Q1, nq1, cq1⟩ D1) := hI.r
  have HK1 : Hid (k1 = D1.k) := hI.r.k
  have HPn : Hid (np1 ≤ 1048576 ∧ nq1 ≤ 1048576) := hI.r.pq hI.s
  have HD1 : Hid (D1.Sm ∧ D1.Bd ∧ D1.s.length % 2 = 0) := ⟨hI.s, hI.b, hI.e⟩
  clear hI hp
  obtain ⟨⟨X, sx, bad⟩, hr⟩ : ∃ r, cnv D1 q = r := ⟨_, rfl⟩
  have HX : Hid (X.Sm ∧ X.Bd) := by
    have h := cnv_ok HD1.out.1 HD1.out.2.1 (by have := HD1.out.2.2; omega) q
    rw [hr] at h
    exact h
  have HR := Lib.hid hr
  clear hr
  go_wp2_with fail
  (with_reducible refine (implConvert_y k1 A1 na1 ca1 B1 nb1 cb1 S1 ns1 cs1 P1 np1 cp1 Q1 nq1 cq1 D1 q X sx bad HR.out _ (Rn.out.ext (by with_reducible (repeat (first | exact Ext.refl _ | apply Ext.drewN | apply Ext.drew | apply Ext.alloc | (refine Ext.set ?_ (by first | (simp; done) | (simp; omega) | omega) _) | (refine Ext.trans ?_ (by assumption)))))) HPn.out).mono ?_)
  rintro e w2 ⟨V, rfl, hN, hx⟩
  have hp : Ext w1 w2 := Ext.trans (by with_reducible (repeat (first | exact Ext.refl _ | apply Ext.drewN | apply Ext.drew | apply Ext.alloc | (refine Ext.set ?_ (by first | (simp; done) | (simp; omega) | omega) _) | (refine Ext.trans ?_ (by assumption))))) hx
  have hE' : Hid (Ext w w2) := hE.out.trans hp
  clear hE
  have hE := hE'
  clear hE'
  have Nn : Hid (NBox w2 w1.heap.size ⟨k1, A1, na1, ca1, B1, nb1, cb1, S1, ns1, cs1, P1, np1, cp1, Q1, nq1, cq1⟩) := (NBox.newT w1 ⟨k1, A1, na1, ca1, B1, nb1, cb1, S1, ns1, cs1, P1, np1, cp1, Q1, nq1, cq1⟩ 33).ext hx
  have R' : Hid (NtR w2 ⟨k1, A1, na1, ca1, B1, nb1, cb1, S1, ns1, cs1, P1, np1, cp1, Q1, nq1, cq1⟩ D1) := Rn.out.ext hp
  clear Rn
  have Rn := R'
  clear R'
  obtain ⟨k2, A2, na2, ca2, B2, nb2, cb2, S2, ns2, cs2, P2, np2, cp2, Q2, nq2, cq2⟩ := V
  unfold NV.val
  dsimp only
  have Rx : Hid (NtR w2 ⟨k2, A2, na2, ca2, B2, nb2, cb2, S2, ns2, cs2, P2, np2, cp2, Q2, nq2, cq2⟩ X) := hN.read HX.out.1 HX.out.2
  have HPx : Hid (np2 ≤ 1048576 ∧ nq2 ≤ 1048576) := Rx.out.pq HX.out.1
  clear hN hp hx
  obtain ⟨zz_n, cl_n0, cl_n1, cl_n2, cl_n3, cl_n4, cl_n5⟩ := Nn.out
  dsimp only at cl_n0 cl_n1 cl_n2 cl_n3 cl_n4 cl_n5
  go_wp2_with fail
  (with_reducible refine (specConvert_y k1 A1 na1 ca1 B1 nb1 cb1 S1 ns1 cs1 P1 np1 cp1 Q1 nq1 cq1 D1 q X sx bad HR.out _ (Rn.out.ext (by with_reducible (repeat (first | exact Ext.refl _ | apply Ext.drewN | apply Ext.drew | apply Ext.alloc | (refine Ext.set ?_ (by first | (simp; done) | (simp; omega) | omega) _) | (refine Ext.trans ?_ (by assumption))))))).mono ?_)
  rintro e w3 ⟨V, rfl, hN, hx⟩
  clear zz_n cl_n0 cl_n1 cl_n2 cl_n3 cl_n4 cl_n5
  have hp : Ext w2 w3 := Ext.trans (by with_reducible (repeat (first | exact Ext.refl _ | apply Ext.drewN | apply Ext.drew | apply Ext.alloc | (refine Ext.set ?_ (by first | (simp; done) | (simp; omega) | omega) _) | (refine Ext.trans ?_ (by assumption))))) hx
  have hE' : Hid (Ext w w3) := hE.out.trans hp
  clear hE
  have hE := hE'
  clear hE'
  have N' : Hid (NBox w3 w1.heap.size ⟨k1, A1, na1, ca1, B1, nb1, cb1, S1, ns1, cs1, P1, np1, cp1, Q1, nq1, cq1⟩) := Nn.out.ext hp
  clear Nn
  have Nn := N'
  clear N'
  have Nx : Hid (NBox w3 w2.heap.size ⟨k2, A2, na2, ca2, B2, nb2, cb2, S2, ns2, cs2, P2, np2, cp2, Q2, nq2, cq2⟩) := (NBox.newT w2 ⟨k2, A2, na2, ca2, B2, nb2, cb2, S2, ns2, cs2, P2, np2, cp2, Q2, nq2, cq2⟩ 33).ext hx
  have R' : Hid (NtR w3 ⟨k1, A1, na1, ca1, B1, nb1, cb1, S1, ns1, cs1, P1, np1, cp1, Q1, nq1, cq1⟩ D1) := Rn.out.ext hp
  clear Rn
  have Rn := R'
  clear R'
  have R' : Hid (NtR w3 ⟨k2, A2, na2, ca2, B2, nb2, cb2, S2, ns2, cs2, P2, np2, cp2, Q2, nq2, cq2⟩ X) := Rx.out.ext hp
  clear Rx
  have Rx := R'
  clear R'
  obtain ⟨k3, A3, na3, ca3, B3, nb3, cb3, S3, ns3, cs3, P3, np3, cp3, Q3, nq3, cq3⟩ := V
  unfold NV.val
  dsimp only
  have Ro : Hid (NtR w3 ⟨k3, A3, na3, ca3, B3, nb3, cb3, S3, ns3, cs3, P3, np3, cp3, Q3, nq3, cq3⟩ X) := hN.read HX.out.1 HX.out.2
  have HPo : Hid (np3 ≤ 1048576 ∧ nq3 ≤ 1048576) := Ro.out.pq HX.out.1
  clear hN hp hx
  go_wp2_with fail
  (with_reducible refine (DrawNotationProps_any A n c xs _ (HBY.out.ext (hE.out.trans (by with_reducible (repeat (first | exact Ext.refl _ | apply Ext.drewN | apply Ext.drew | apply Ext.alloc | (refine Ext.set ?_ (by first | (simp; done) | (simp; omega) | omega) _) | (refine Ext.trans ?_ (by assumption)))))))).mono ?_)
  rintro e w4 ⟨V, D4, rfl, hI⟩
  have hp : Ext w3 w4 := Ext.trans (by with_reducible (repeat (first | exact Ext.refl _ | apply Ext.drewN | apply Ext.drew | apply Ext.alloc | (refine Ext.set ?_ (by first | (simp; done) | (simp; omega) | omega) _) | (refine Ext.trans ?_ (by assumption))))) hI.x
  have hE' : Hid (Ext w w4) := hE.out.trans hp
  clear hE
  have hE := hE'
  clear hE'
  have N' : Hid (NBox w4 w1.heap.size ⟨k1, A1, na1, ca1, B1, nb1, cb1, S1, ns1, cs1, P1, np1, cp1, Q1, nq1, cq1⟩) := Nn.out.ext hp
  clear Nn
  have Nn := N'
  clear N'
  have N' : Hid (NBox w4 w2.heap.size ⟨k2, A2, na2, ca2, B2, nb2, cb2, S2, ns2, cs2, P2, np2, cp2, Q2, nq2, cq2⟩) := Nx.out.ext hp
  clear Nx
  have Nx := N'
  clear N'
  have No : Hid (NBox w4 w3.heap.size ⟨k3, A3, na3, ca3, B3, nb3, cb3, S3, ns3, cs3, P3, np3, cp3, Q3, nq3, cq3⟩) := (NBox.newT w3 ⟨k3, A3, na3, ca3, B3, nb3, cb3, S3, ns3, cs3, P3, np3, cp3, Q3, nq3, cq3⟩ 33).ext hI.x
  have R' : Hid (NtR w4 ⟨k1, A1, na1, ca1, B1, nb1, cb1, S1, ns1, cs1, P1, np1, cp1, Q1, nq1, cq1⟩ D1) := Rn.out.ext hp
  clear Rn
  have Rn := R'
  clear R'
  have R' : Hid (NtR w4 ⟨k2, A2, na2, ca2, B2, nb2, cb2, S2, ns2, cs2, P2, np2, cp2, Q2, nq2, cq2⟩ X) := Rx.out.ext hp
  clear Rx
  have Rx := R'
  clear R'
  have R' : Hid (NtR w4 ⟨k3, A3, na3, ca3, B3, nb3, cb3, S3, ns3, cs3, P3, np3, cp3, Q3, nq3, cq3⟩ X) := Ro.out.ext hp
  clear Ro
  have Ro := R'
  clear R'
  obtain ⟨k4, A4, na4, ca4, B4, nb4, cb4, S4, ns4, cs4, P4, np4, cp4, Q4, nq4, cq4⟩ := V
  unfold NV.val
  dsimp only
  have Rm : Hid (NtR w4 ⟨k4, A4, na4, ca4, B4, nb4, cb4, S4, ns4, cs4, P4, np4, cp4, Q4, nq4, cq4⟩ D4) := hI.r
  have HPm : Hid (np4 ≤ 1048576 ∧ nq4 ≤ 1048576) := hI.r.pq hI.s
  clear hI hp
  obtain ⟨vm, hvm⟩ : ∃ v, vnt D4 = v := ⟨_, rfl⟩
  have HVM := Lib.hid hvm
  clear hvm
  obtain ⟨pr, hpr⟩ : ∃ r, (if vnt D4 = true then npr D4 else 0) = r := ⟨_, rfl⟩
  have HPR := Lib.hid hpr
  clear hpr
  obtain ⟨bt, hbt⟩ : ∃ r, (if vnt D4 = true then nbt D4 else 0) = r := ⟨_, rfl⟩
  have HBT := Lib.hid hbt
  clear hbt
  obtain ⟨pc, hpc⟩ : ∃ r, (if vnt D4 = true then (0 : Int) else 1) = r := ⟨_, rfl⟩
  have HPC := Lib.hid hpc
  clear hpc
  go_wp2_with fail
  (with_reducible refine (implNotationProps_y k4 A4 na4 ca4 B4 nb4 cb4 S4 ns4 cs4 P4 np4 cp4 Q4 nq4 cq4 D4 pr pc _ (Rm.out.ext (by with_reducible (repeat (first | exact Ext.refl _ | apply Ext.drewN | apply Ext.drew | apply Ext.alloc | (refine Ext.set ?_ (by first | (simp; done) | (simp; omega) | omega) _) | (refine Ext.trans ?_ (by assumption)))))) HPm.out HPR.out HPC.out).mono ?_)
  rintro e w5 ⟨rfl, hx⟩
  have hp : Ext w4 w5 := Ext.trans (by with_reducible (repeat (first | exact Ext.refl _ | apply Ext.drewN | apply Ext.drew | apply Ext.alloc | (refine Ext.set ?_ (by first | (simp; done) | (simp; omega) | omega) _) | (refine Ext.trans ?_ (by assumption))))) hx
  have hE' : Hid (Ext w w5) := hE.out.trans hp
  clear hE
  have hE := hE'
  clear hE'
  have N' : Hid (NBox w5 w1.heap.size ⟨k1, A1, na1, ca1, B1, nb1, cb1, S1, ns1, cs1, P1, np1, cp1, Q1, nq1, cq1⟩) := Nn.out.ext hp
  clear Nn
  have Nn := N'
  clear N'
  have N' : Hid (NBox w5 w2.heap.size ⟨k2, A2, na2, ca2, B2, nb2, cb2, S2, ns2, cs2, P2, np2, cp2, Q2, nq2, cq2⟩) := Nx.out.ext hp
  clear Nx
  have Nx := N'
  clear N'
  have N' : Hid (NBox w5 w3.heap.size ⟨k3, A3, na3, ca3, B3, nb3, cb3, S3, ns3, cs3, P3, np3, cp3, Q3, nq3, cq3⟩) := No.out.ext hp
  clear No
  have No := N'
  clear N'
  have Nm : Hid (NBox w5 w4.heap.size ⟨k4, A4, na4, ca4, B4, nb4, cb4, S4, ns4, cs4, P4, np4, cp4, Q4, nq4, cq4⟩) := (NBox.newT w4 ⟨k4, A4, na4, ca4, B4, nb4, cb4, S4, ns4, cs4, P4, np4, cp4, Q4, nq4, cq4⟩ 33).ext hx
  have R' : Hid (NtR w5 ⟨k1, A1, na1, ca1, B1, nb1, cb1, S1, ns1, cs1, P1, np1, cp1, Q1, nq1, cq1⟩ D1) := Rn.out.ext hp
  clear Rn
  have Rn := R'
  clear R'
  have R' : Hid (NtR w5 ⟨k2, A2, na2, ca2, B2, nb2, cb2, S2, ns2, cs2, P2, np2, cp2, Q2, nq2, cq2⟩ X) := Rx.out.ext hp
  clear Rx
  have Rx := R'
  clear R'
  have R' : Hid (NtR w5 ⟨k3, A3, na3, ca3, B3, nb3, cb3, S3, ns3, cs3, P3, np3, cp3, Q3, nq3, cq3⟩ X) := Ro.out.ext hp
  clear Ro
  have Ro := R'
  clear R'
  have R' : Hid (NtR w5 ⟨k4, A4, na4, ca4, B4, nb4, cb4, S4, ns4, cs4, P4, np4, cp4, Q4, nq4, cq4⟩ D4) := Rm.out.ext hp
  clear Rm
  have Rm := R'
  clear R'
  clear hp hx
  obtain ⟨zz_m, cl_m0, cl_m1, cl_m2, cl_m3, cl_m4, cl_m5⟩ := Nm.out
  dsimp only at cl_m0 cl_m1 cl_m2 cl_m3 cl_m4 cl_m5
  go_wp2_with fail
  (with_reducible refine (specNotationProps_y k4 A4 na4 ca4 B4 nb4 cb4 S4 ns4 cs4 P4 np4 cp4 Q4 nq4 cq4 D4 pr pc _ (Rm.out.ext (by with_reducible (repeat (first | exact Ext.refl _ | apply Ext.drewN | apply Ext.drew | apply Ext.alloc | (refine Ext.set ?_ (by first | (simp; done) | (simp; omega) | omega) _) | (refine Ext.trans ?_ (by assumption)))))) HPm.out HPR.out HPC.out).mono ?_)
  rintro e w6 ⟨rfl, hx⟩
  clear zz_m cl_m0 cl_m1 cl_m2 cl_m3 cl_m4 cl_m5
  have hp : Ext w5 w6 := Ext.trans (by with_reducible (repeat (first | exact Ext.refl _ | apply Ext.drewN | apply Ext.drew | apply Ext.alloc | (refine Ext.set ?_ (by first | (simp; done) | (simp; omega) | omega) _) | (refine Ext.trans ?_ (by assumption))))) hx
  have hE' : Hid (Ext w w6) := hE.out.trans hp
  clear hE
  have hE := hE'
  clear hE'
  have N' : Hid (NBox w6 w1.heap.size ⟨k1, A1, na1, ca1, B1, nb1, cb1, S1, ns1, cs1, P1, np1, cp1, Q1, nq1, cq1⟩) := Nn.out.ext hp
  clear Nn
  have Nn := N'
  clear N'
  have N' : Hid (NBox w6 w2.heap.size ⟨k2, A2, na2, ca2, B2, nb2, cb2, S2, ns2, cs2, P2, np2, cp2, Q2, nq2, cq2⟩) := Nx.out.ext hp
  clear Nx
  have Nx := N'
  clear N'
  have N' : Hid (NBox w6 w3.heap.size ⟨k3, A3, na3, ca3, B3, nb3, cb3, S3, ns3, cs3, P3, np3, cp3, Q3, nq3, cq3⟩) := No.out.ext hp
  clear No
  have No := N'
  clear N'
  have N' : Hid (NBox w6 w4.heap.size ⟨k4, A4, na4, ca4, B4, nb4, cb4, S4, ns4, cs4, P4, np4, cp4, Q4, nq4, cq4⟩) := Nm.out.ext hp
  clear Nm
  have Nm := N'
  clear N'
  have R' : Hid (NtR w6 ⟨k1, A1, na1, ca1, B1, nb1, cb1, S1, ns1, cs1, P1, np1, cp1, Q1, nq1, cq1⟩ D1) := Rn.out.ext hp
  clear Rn
  have Rn := R'
  clear R'
  have R' : Hid (NtR w6 ⟨k2, A2, na2, ca2, B2, nb2, cb2, S2, ns2, cs2, P2, np2, cp2, Q2, nq2, cq2⟩ X) := Rx.out.ext hp
  clear Rx
  have Rx := R'
  clear R'
  have R' : Hid (NtR w6 ⟨k3, A3, na3, ca3, B3, nb3, cb3, S3, ns3, cs3, P3, np3, cp3, Q3, nq3, cq3⟩ X) := Ro.out.ext hp
  clear Ro
  have Ro := R'
  clear R'
  have R' : Hid (NtR w6 ⟨k4, A4, na4, ca4, B4, nb4, cb4, S4, ns4, cs4, P4, np4, cp4, Q4, nq4, cq4⟩ D4) := Rm.out.ext hp
  clear Rm
  have Rm := R'
  clear R'
  clear hp hx
  obtain ⟨zz_m, cl_m0, cl_m1, cl_m2, cl_m3, cl_m4, cl_m5⟩ := Nm.out
  dsimp only at cl_m0 cl_m1 cl_m2 cl_m3 cl_m4 cl_m5
  go_wp2_with fail
  (with_reducible refine (implNotationBeats_y k4 A4 na4 ca4 B4 nb4 cb4 S4 ns4 cs4 P4 np4 cp4 Q4 nq4 cq4 D4 bt pc _ (Rm.out.ext (by with_reducible (repeat (first | exact Ext.refl _ | apply Ext.drewN | apply Ext.drew | apply Ext.alloc | (refine Ext.set ?_ (by first | (simp; done) | (simp; omega) | omega) _) | (refine Ext.trans ?_ (by assumption)))))) HPm.out HBT.out HPC.out).mono ?_)
  rintro e w7 ⟨rfl, hx⟩
  clear zz_m cl_m0 cl_m1 cl_m2 cl_m3 cl_m4 cl_m5
  have hp : Ext w6 w7 := Ext.trans (by with_reducible (repeat (first | exact Ext.refl _ | apply Ext.drewN | apply Ext.drew | apply Ext.alloc | (refine Ext.set ?_ (by first | (simp; done) | (simp; omega) | omega) _) | (refine Ext.trans ?_ (by assumption))))) hx
  have hE' : Hid (Ext w w7) := hE.out.trans hp
  clear hE
  have hE := hE'
  clear hE'
  have N' : Hid (NBox w7 w1.heap.size ⟨k1, A1, na1, ca1, B1, nb1, cb1, S1, ns1, cs1, P1, np1, cp1, Q1, nq1, cq1⟩) := Nn.out.ext hp
  clear Nn
  have Nn := N'
  clear N'
  have N' : Hid (NBox w7 w2.heap.size ⟨k2, A2, na2, ca2, B2, nb2, cb2, S2, ns2, cs2, P2, np2, cp2, Q2, nq2, cq2⟩) := Nx.out.ext hp
  clear Nx
  have Nx := N'
  clear N'
  have N' : Hid (NBox w7 w3.heap.size ⟨k3, A3, na3, ca3, B3, nb3, cb3, S3, ns3, cs3, P3, np3, cp3, Q3, nq3, cq3⟩) := No.out.ext hp
  clear No
  have No := N'
  clear N'
  have N' : Hid (NBox w7 w4.heap.size ⟨k4, A4, na4, ca4, B4, nb4, cb4, S4, ns4, cs4, P4, np4, cp4, Q4, nq4, cq4⟩) := Nm.out.ext hp
  clear Nm
  have Nm := N'
  clear N'
  have R' : Hid (NtR w7 ⟨k1, A1, na1, ca1, B1, nb1, cb1, S1, ns1, cs1, P1, np1, cp1, Q1, nq1, cq1⟩ D1) := Rn.out.ext hp
  clear Rn
  have Rn := R'
  clear R'
  have R' : Hid (NtR w7 ⟨k2, A2, na2, ca2, B2, nb2, cb2, S2, ns2, cs2, P2, np2, cp2, Q2, nq2, cq2⟩ X) := Rx.out.ext hp
  clear Rx
  have Rx := R'
  clear R'
  have R' : Hid (NtR w7 ⟨k3, A3, na3, ca3, B3, nb3, cb3, S3, ns3, cs3, P3, np3, cp3, Q3, nq3, cq3⟩ X) := Ro.out.ext hp
  clear Ro
  have Ro := R'
  clear R'
  have R' : Hid (NtR w7 ⟨k4, A4, na4, ca4, B4, nb4, cb4, S4, ns4, cs4, P4, np4, cp4, Q4, nq4, cq4⟩ D4) := Rm.out.ext hp
  clear Rm
  have Rm := R'
  clear R'
  clear hp hx
  obtain ⟨zz_m, cl_m0, cl_m1, cl_m2, cl_m3, cl_m4, cl_m5⟩ := Nm.out
  dsimp only at cl_m0 cl_m1 cl_m2 cl_m3 cl_m4 cl_m5
  go_wp2_with fail
  (with_reducible refine (specNotationBeats_y k4 A4 na4 ca4 B4 nb4 cb4 S4 ns4 cs4 P4 np4 cp4 Q4 nq4 cq4 D4 bt pc _ (Rm.out.ext (by with_reducible (repeat (first | exact Ext.refl _ | apply Ext.drewN | apply Ext.drew | apply Ext.alloc | (refine Ext.set ?_ (by first | (simp; done) | (simp; omega) | omega) _) | (refine Ext.trans ?_ (by assumption)))))) HPm.out HBT.out HPC.out).mono ?_)
  rintro e w8 ⟨rfl, hx⟩
  clear zz_m cl_m0 cl_m1 cl_m2 cl_m3 cl_m4 cl_m5
  have hp : Ext w7 w8 := Ext.trans (by with_reducible (repeat (first | exact Ext.refl _ | apply Ext.drewN | apply Ext.drew | apply Ext.alloc | (refine Ext.set ?_ (by first | (simp; done) | (simp; omega) | omega) _) | (refine Ext.trans ?_ (by assumption))))) hx
  have hE' : Hid (Ext w w8) := hE.out.trans hp
  clear hE
  have hE := hE'
  clear hE'
  have N' : Hid (NBox w8 w1.heap.size ⟨k1, A1, na1, ca1, B1, nb1, cb1, S1, ns1, cs1, P1, np1, cp1, Q1, nq1, cq1⟩) := Nn.out.ext hp
  clear Nn
  have Nn := N'
  clear N'
  have N' : Hid (NBox w8 w2.heap.size ⟨k2, A2, na2, ca2, B2, nb2, cb2, S2, ns2, cs2, P2, np2, cp2, Q2, nq2, cq2⟩) := Nx.out.ext hp
  clear Nx
  have Nx := N'
  clear N'
  have N' : Hid (NBox w8 w3.heap.size ⟨k3, A3, na3, ca3, B3, nb3, cb3, S3, ns3, cs3, P3, np3, cp3, Q3, nq3, cq3⟩) := No.out.ext hp
  clear No
  have No := N'
  clear N'
  have N' : Hid (NBox w8 w4.heap.size ⟨k4, A4, na4, ca4, B4, nb4, cb4, S4, ns4, cs4, P4, np4, cp4, Q4, nq4, cq4⟩) := Nm.out.ext hp
  clear Nm
  have Nm := N'
  clear N'
  have R' : Hid (NtR w8 ⟨k1, A1, na1, ca1, B1, nb1, cb1, S1, ns1, cs1, P1, np1, cp1, Q1, nq1, cq1⟩ D1) := Rn.out.ext hp
  clear Rn
  have Rn := R'
  clear R'
  have R' : Hid (NtR w8 ⟨k2, A2, na2, ca2, B2, nb2, cb2, S2, ns2, cs2, P2, np2, cp2, Q2, nq2, cq2⟩ X) := Rx.out.ext hp
  clear Rx
  have Rx := R'
  clear R'
  have R' : Hid (NtR w8 ⟨k3, A3, na3, ca3, B3, nb3, cb3, S3, ns3, cs3, P3, np3, cp3, Q3, nq3, cq3⟩ X) := Ro.out.ext hp
  clear Ro
  have Ro := R'
  clear R'
  have R' : Hid (NtR w8 ⟨k4, A4, na4, ca4, B4, nb4, cb4, S4, ns4, cs4, P4, np4, cp4, Q4, nq4, cq4⟩ D4) := Rm.out.ext hp
  clear Rm
  have Rm := R'
  clear R'
  clear hp hx
  go_wp2_with fail
  (with_reducible refine (DrawSameNotation_any A n c xs _ (HBY.out.ext (hE.out.trans (by with_reducible (repeat (first | exact Ext.refl _ | apply Ext.drewN | apply Ext.drew | apply Ext.alloc | (refine Ext.set ?_ (by first | (simp; done) | (simp; omega) | omega) _) | (refine Ext.trans ?_ (by assumption)))))))).mono ?_)
  rintro e w9 ⟨V, D5, U, D6, rfl, hx, hra, hrb⟩
  have hp : Ext w8 w9 := Ext.trans (by with_reducible (repeat (first | exact Ext.refl _ | apply Ext.drewN | apply Ext.drew | apply Ext.alloc | (refine Ext.set ?_ (by first | (simp; done) | (simp; omega) | omega) _) | (refine Ext.trans ?_ (by assumption))))) hx
  have hE' : Hid (Ext w w9) := hE.out.trans hp
  clear hE
  have hE := hE'
  clear hE'
  have N' : Hid (NBox w9 w1.heap.size ⟨k1, A1, na1, ca1, B1, nb1, cb1, S1, ns1, cs1, P1, np1, cp1, Q1, nq1, cq1⟩) := Nn.out.ext hp
  clear Nn
  have Nn := N'
  clear N'
  have N' : Hid (NBox w9 w2.heap.size ⟨k2, A2, na2, ca2, B2, nb2, cb2, S2, ns2, cs2, P2, np2, cp2, Q2, nq2, cq2⟩) := Nx.out.ext hp
  clear Nx
  have Nx := N'
  clear N'
  have N' : Hid (NBox w9 w3.heap.size ⟨k3, A3, na3, ca3, B3, nb3, cb3, S3, ns3, cs3, P3, np3, cp3, Q3, nq3, cq3⟩) := No.out.ext hp
  clear No
  have No := N'
  clear N'
  have N' : Hid (NBox w9 w4.heap.size ⟨k4, A4, na4, ca4, B4, nb4, cb4, S4, ns4, cs4, P4, np4, cp4, Q4, nq4, cq4⟩) := Nm.out.ext hp
  clear Nm
  have Nm := N'
  clear N'
  have R' : Hid (NtR w9 ⟨k1, A1, na1, ca1, B1, nb1, cb1, S1, ns1, cs1, P1, np1, cp1, Q1, nq1, cq1⟩ D1) := Rn.out.ext hp
  clear Rn
  have Rn := R'
  clear R'
  have R' : Hid (NtR w9 ⟨k2, A2, na2, ca2, B2, nb2, cb2, S2, ns2, cs2, P2, np2, cp2, Q2, nq2, cq2⟩ X) := Rx.out.ext hp
  clear Rx
  have Rx := R'
  clear R'
  have R' : Hid (NtR w9 ⟨k3, A3, na3, ca3, B3, nb3, cb3, S3, ns3, cs3, P3, np3, cp3, Q3, nq3, cq3⟩ X) := Ro.out.ext hp
  clear Ro
  have Ro := R'
  clear R'
  have R' : Hid (NtR w9 ⟨k4, A4, na4, ca4, B4, nb4, cb4, S4, ns4, cs4, P4, np4, cp4, Q4, nq4, cq4⟩ D4) := Rm.out.ext hp
  clear Rm
  have Rm := R'
  clear R'
  obtain ⟨k5, A5, na5, ca5, B5, nb5, cb5, S5, ns5, cs5, P5, np5, cp5, Q5, nq5, cq5⟩ := V
  obtain ⟨k6, A6, na6, ca6, B6, nb6, cb6, S6, ns6, cs6, P6, np6, cp6, Q6, nq6, cq6⟩ := U
  unfold NV.val
  dsimp only
  have Ra : Hid (NtR w9 ⟨k5, A5, na5, ca5, B5, nb5, cb5, S5, ns5, cs5, P5, np5, cp5, Q5, nq5, cq5⟩ D5) := hra
  have Rb : Hid (NtR w9 ⟨k6, A6, na6, ca6, B6, nb6, cb6, S6, ns6, cs6, P6, np6, cp6, Q6, nq6, cq6⟩ D6) := hrb
  clear hra hrb hp hx
  obtain ⟨vs, hvs⟩ : ∃ v, sme D5 D6 = v := ⟨_, rfl⟩
  have HVS := Lib.hid hvs
  clear hvs
  have hxW : Ext w9 ((w9.alloc (.cells #[.int .i64 k5, .slice A5 na5 ca5, .slice B5 nb5 cb5, .slice S5 ns5 cs5, .slice P5 np5 cp5, .slice Q5 nq5 cq5] 33)).alloc (.cells #[.int .i64 k6, .slice A6 na6 ca6, .slice B6 nb6 cb6, .slice S6 ns6 cs6, .slice P6 np6 cp6, .slice Q6 nq6 cq6] 33)) := ((Ext.refl _).alloc _).alloc _
  have NA : Hid (NBox ((w9.alloc (.cells #[.int .i64 k5, .slice A5 na5 ca5, .slice B5 nb5 cb5, .slice S5 ns5 cs5, .slice P5 np5 cp5, .slice Q5 nq5 cq5] 33)).alloc (.cells #[.int .i64 k6, .slice A6 na6 ca6, .slice B6 nb6 cb6, .slice S6 ns6 cs6, .slice P6 np6 cp6, .slice Q6 nq6 cq6] 33)) w9.heap.size ⟨k5, A5, na5, ca5, B5, nb5, cb5, S5, ns5, cs5, P5, np5, cp5, Q5, nq5, cq5⟩) := (NBox.newT w9 ⟨k5, A5, na5, ca5, B5, nb5, cb5, S5, ns5, cs5, P5, np5, cp5, Q5, nq5, cq5⟩ 33).ext ((Ext.refl _).alloc _)
  have NB : Hid (NBox ((w9.alloc (.cells #[.int .i64 k5, .slice A5 na5 ca5, .slice B5 nb5 cb5, .slice S5 ns5 cs5, .slice P5 np5 cp5, .slice Q5 nq5 cq5] 33)).alloc (.cells #[.int .i64 k6, .slice A6 na6 ca6, .slice B6 nb6 cb6, .slice S6 ns6 cs6, .slice P6 np6 cp6, .slice Q6 nq6 cq6] 33)) (w9.heap.size + 1) ⟨k6, A6, na6, ca6, B6, nb6, cb6, S6, ns6, cs6, P6, np6, cp6, Q6, nq6, cq6⟩) := by
    have h := NBox.newT (w9.alloc (.cells #[.int .i64 k5, .slice A5 na5 ca5, .slice B5 nb5 cb5, .slice S5 ns5 cs5, .slice P5 np5 cp5, .slice Q5 nq5 cq5] 33)) ⟨k6, A6, na6, ca6, B6, nb6, cb6, S6, ns6, cs6, P6, np6, cp6, Q6, nq6, cq6⟩ 33
    rwa [World.size_alloc] at h
  obtain ⟨-, cl_x0, cl_x1, cl_x2, cl_x3, cl_x4, cl_x5⟩ := Nx.out.ext hxW
  dsimp only at cl_x0 cl_x1 cl_x2 cl_x3 cl_x4 cl_x5
  obtain ⟨-, cl_o0, cl_o1, cl_o2, cl_o3, cl_o4, cl_o5⟩ := No.out.ext hxW
  dsimp only at cl_o0 cl_o1 cl_o2 cl_o3 cl_o4 cl_o5
  obtain ⟨-, cl_m0, cl_m1, cl_m2, cl_m3, cl_m4, cl_m5⟩ := Nm.out.ext hxW
  dsimp only at cl_m0 cl_m1 cl_m2 cl_m3 cl_m4 cl_m5
  obtain ⟨-, cl_a0, cl_a1, cl_a2, cl_a3, cl_a4, cl_a5⟩ := NA.out
  dsimp only at cl_a0 cl_a1 cl_a2 cl_a3 cl_a4 cl_a5
  obtain ⟨-, cl_b0, cl_b1, cl_b2, cl_b3, cl_b4, cl_b5⟩ := NB.out
  dsimp only at cl_b0 cl_b1 cl_b2 cl_b3 cl_b4 cl_b5
  clear NA NB
  have hx0 : Ext w9 ((w9.alloc (.cells #[.int .i64 k5, .slice A5 na5 ca5, .slice B5 nb5 cb5, .slice S5 ns5 cs5, .slice P5 np5 cp5, .slice Q5 nq5 cq5] 33)).alloc (.cells #[.int .i64 k6, .slice A6 na6 ca6, .slice B6 nb6 cb6, .slice S6 ns6 cs6, .slice P6 np6 cp6, .slice Q6 nq6 cq6] 33)).drew := hxW.drew
  have hE0 : Hid (Ext w _) := hE.out.trans hx0
  have NNn : Hid (NBox ((w9.alloc (.cells #[.int .i64 k5, .slice A5 na5 ca5, .slice B5 nb5 cb5, .slice S5 ns5 cs5, .slice P5 np5 cp5, .slice Q5 nq5 cq5] 33)).alloc (.cells #[.int .i64 k6, .slice A6 na6 ca6, .slice B6 nb6 cb6, .slice S6 ns6 cs6, .slice P6 np6 cp6, .slice Q6 nq6 cq6] 33)).drew w1.heap.size ⟨k1, A1, na1, ca1, B1, nb1, cb1, S1, ns1, cs1, P1, np1, cp1, Q1, nq1, cq1⟩) := Nn.out.ext hx0
  clear Nn
  have NNx : Hid (NBox ((w9.alloc (.cells #[.int .i64 k5, .slice A5 na5 ca5, .slice B5 nb5 cb5, .slice S5 ns5 cs5, .slice P5 np5 cp5, .slice Q5 nq5 cq5] 33)).alloc (.cells #[.int .i64 k6, .slice A6 na6 ca6, .slice B6 nb6 cb6, .slice S6 ns6 cs6, .slice P6 np6 cp6, .slice Q6 nq6 cq6] 33)).drew w2.heap.size ⟨k2, A2, na2, ca2, B2, nb2, cb2, S2, ns2, cs2, P2, np2, cp2, Q2, nq2, cq2⟩) := Nx.out.ext hx0
  clear Nx
  clear No Nm
  have Qn : Hid (NtR ((w9.alloc (.cells #[.int .i64 k5, .slice A5 na5 ca5, .slice B5 nb5 cb5, .slice S5 ns5 cs5, .slice P5 np5 cp5, .slice Q5 nq5 cq5] 33)).alloc (.cells #[.int .i64 k6, .slice A6 na6 ca6, .slice B6 nb6 cb6, .slice S6 ns6 cs6, .slice P6 np6 cp6, .slice Q6 nq6 cq6] 33)).drew ⟨k1, A1, na1, ca1, B1, nb1, cb1, S1, ns1, cs1, P1, np1, cp1, Q1, nq1, cq1⟩ D1) := Rn.out.ext hx0
  clear Rn
  have Qx : Hid (NtR ((w9.alloc (.cells #[.int .i64 k5, .slice A5 na5 ca5, .slice B5 nb5 cb5, .slice S5 ns5 cs5, .slice P5 np5 cp5, .slice Q5 nq5 cq5] 33)).alloc (.cells #[.int .i64 k6, .slice A6 na6 ca6, .slice B6 nb6 cb6, .slice S6 ns6 cs6, .slice P6 np6 cp6, .slice Q6 nq6 cq6] 33)).drew ⟨k2, A2, na2, ca2, B2, nb2, cb2, S2, ns2, cs2, P2, np2, cp2, Q2, nq2, cq2⟩ X) := Rx.out.ext hx0
  clear Rx
  have Qo : Hid (NtR ((w9.alloc (.cells #[.int .i64 k5, .slice A5 na5 ca5, .slice B5 nb5 cb5, .slice S5 ns5 cs5, .slice P5 np5 cp5, .slice Q5 nq5 cq5] 33)).alloc (.cells #[.int .i64 k6, .slice A6 na6 ca6, .slice B6 nb6 cb6, .slice S6 ns6 cs6, .slice P6 np6 cp6, .slice Q6 nq6 cq6] 33)).drew ⟨k3, A3, na3, ca3, B3, nb3, cb3, S3, ns3, cs3, P3, np3, cp3, Q3, nq3, cq3⟩ X) := Ro.out.ext hx0
  clear Ro
  have Qm : Hid (NtR ((w9.alloc (.cells #[.int .i64 k5, .slice A5 na5 ca5, .slice B5 nb5 cb5, .slice S5 ns5 cs5, .slice P5 np5 cp5, .slice Q5 nq5 cq5] 33)).alloc (.cells #[.int .i64 k6, .slice A6 na6 ca6, .slice B6 nb6 cb6, .slice S6 ns6 cs6, .slice P6 np6 cp6, .slice Q6 nq6 cq6] 33)).drew ⟨k4, A4, na4, ca4, B4, nb4, cb4, S4, ns4, cs4, P4, np4, cp4, Q4, nq4, cq4⟩ D4) := Rm.out.ext hx0
  clear Rm
  have Qa : Hid (NtR ((w9.alloc (.cells #[.int .i64 k5, .slice A5 na5 ca5, .slice B5 nb5 cb5, .slice S5 ns5 cs5, .slice P5 np5 cp5, .slice Q5 nq5 cq5] 33)).alloc (.cells #[.int .i64 k6, .slice A6 na6 ca6, .slice B6 nb6 cb6, .slice S6 ns6 cs6, .slice P6 np6 cp6, .slice Q6 nq6 cq6] 33)).drew ⟨k5, A5, na5, ca5, B5, nb5, cb5, S5, ns5, cs5, P5, np5, cp5, Q5, nq5, cq5⟩ D5) := Ra.out.ext hx0
  clear Ra
  have Qb : Hid (NtR ((w9.alloc (.cells #[.int .i64 k5, .slice A5 na5 ca5, .slice B5 nb5 cb5, .slice S5 ns5 cs5, .slice P5 np5 cp5, .slice Q5 nq5 cq5] 33)).alloc (.cells #[.int .i64 k6, .slice A6 na6 ca6, .slice B6 nb6 cb6, .slice S6 ns6 cs6, .slice P6 np6 cp6, .slice Q6 nq6 cq6] 33)).drew ⟨k6, A6, na6, ca6, B6, nb6, cb6, S6, ns6, cs6, P6, np6, cp6, Q6, nq6, cq6⟩ D6) := Rb.out.ext hx0
  clear Rb
  clear hE hx0 hxW
  go_upto_region 12 with fail
  refine wp_region_held_drew (S := Holds [(⟨w2.heap.size, 0, none⟩, .int .i64 k2), (⟨w2.heap.size, 1, none⟩, .slice A2 na2 ca2), (⟨w2.heap.size, 2, none⟩, .slice B2 nb2 cb2), (⟨w2.heap.size, 3, none⟩, .slice S2 ns2 cs2), (⟨w2.heap.size, 4, none⟩, .slice P2 np2 cp2), (⟨w2.heap.size, 5, none⟩, .slice Q2 nq2 cq2), (⟨w3.heap.size, 0, none⟩, .int .i64 k3), (⟨w3.heap.size, 1, none⟩, .slice A3 na3 ca3), (⟨w3.heap.size, 2, none⟩, .slice B3 nb3 cb3), (⟨w3.heap.size, 3, none⟩, .slice S3 ns3 cs3), (⟨w3.heap.size, 4, none⟩, .slice P3 np3 cp3), (⟨w3.heap.size, 5, none⟩, .slice Q3 nq3 cq3), (⟨w4.heap.size, 0, none⟩, .int .i64 k4), (⟨w4.heap.size, 1, none⟩, .slice A4 na4 ca4), (⟨w4.heap.size, 2, none⟩, .slice B4 nb4 cb4), (⟨w4.heap.size, 3, none⟩, .slice S4 ns4 cs4), (⟨w4.heap.size, 4, none⟩, .slice P4 np4 cp4), (⟨w4.heap.size, 5, none⟩, .slice Q4 nq4 cq4), (⟨w9.heap.size, 0, none⟩, .int .i64 k5), (⟨w9.heap.size, 1, none⟩, .slice A5 na5 ca5), (⟨w9.heap.size, 2, none⟩, .slice B5 nb5 cb5), (⟨w9.heap.size, 3, none⟩, .slice S5 ns5 cs5), (⟨w9.heap.size, 4, none⟩, .slice P5 np5 cp5), (⟨w9.heap.size, 5, none⟩, .slice Q5 nq5 cq5), (⟨w9.heap.size + 1, 0, none⟩, .int .i64 k6), (⟨w9.heap.size + 1, 1, none⟩, .slice A6 na6 ca6), (⟨w9.heap.size + 1, 2, none⟩, .slice B6 nb6 cb6), (⟨w9.heap.size + 1, 3, none⟩, .slice S6 ns6 cs6), (⟨w9.heap.size + 1, 4, none⟩, .slice P6 np6 cp6), (⟨w9.heap.size + 1, 5, none⟩, .slice Q6 nq6 cq6)]) (by kernel_rfl) (by (simp only [Holds_cons, Holds_nil, and_true]); exact ⟨cl_x0, cl_x1, cl_x2, cl_x3, cl_x4, cl_x5, cl_o0, cl_o1, cl_o2, cl_o3, cl_o4, cl_o5, cl_m0, cl_m1, cl_m2, cl_m3, cl_m4, cl_m5, cl_a0, cl_a1, cl_a2, cl_a3, cl_a4, cl_a5, cl_b0, cl_b1, cl_b2, cl_b3, cl_b4, cl_b5⟩) (fun hHeld => ?_)
  refine wpAnyH_take (i := 0) (v := ?_) rfl (by kernel_rfl) (by kernel_rfl) (by kernel_rfl) (fun _ _ _ h => h) (Or.inl ⟨by rfl, ?hyh1⟩) hHeld ?_
  case hyh1 => ((intro wz hSw); (simp only [Holds_cons, Holds_nil, and_true] at hSw); (obtain ⟨_, _, _, _, _, _, _, _, _, _, _, _, _, _, _, _, _, _, _, _, _, _, _, _, _, _, _, _, _, _⟩ := hSw); go_simp; (try with_reducible rfl))
  (try simp only [List.getElem_toArray, List.getElem_cons_succ, List.getElem_cons_zero, Act.put, List.setIfInBounds_toArray, List.set_cons_zero, List.set_cons_succ])
  refine wpAnyH_take (i := 1) (v := ?_) rfl (by kernel_rfl) (by kernel_rfl) (by kernel_rfl) (fun _ _ _ h => h) (Or.inl ⟨by rfl, ?hyh2⟩) hHeld ?_
  case hyh2 => ((intro wz hSw); (simp only [Holds_cons, Holds_nil, and_true] at hSw); (obtain ⟨_, _, _, _, _, _, _, _, _, _, _, _, _, _, _, _, _, _, _, _, _, _, _, _, _, _, _, _, _, _⟩ := hSw); go_simp; (try with_reducible rfl))
  (try simp only [List.getElem_toArray, List.getElem_cons_succ, List.getElem_cons_zero, Act.put, List.setIfInBounds_toArray, List.set_cons_zero, List.set_cons_succ])
  refine wpAnyH_take (i := 2) (v := ?_) rfl (by kernel_rfl) (by kernel_rfl) (by kernel_rfl) (fun _ _ _ h => h) (Or.inl ⟨by rfl, ?hyh3⟩) hHeld ?_
  case hyh3 => ((intro wz hSw); (simp only [Holds_cons, Holds_nil, and_true] at hSw); (obtain ⟨_, _, _, _, _, _, _, _, _, _, _, _, _, _, _, _, _, _, _, _, _, _, _, _, _, _, _, _, _, _⟩ := hSw); go_simp; (try with_reducible rfl))
  (try simp only [List.getElem_toArray, List.getElem_cons_succ, List.getElem_cons_zero, Act.put, List.setIfInBounds_toArray, List.set_cons_zero, List.set_cons_succ])
  refine wpAnyH_take (i := 3) (v := ?_) rfl (by kernel_rfl) (by kernel_rfl) (by kernel_rfl) (fun _ _ _ h => h) (Or.inl ⟨by rfl, ?hyh4⟩) hHeld ?_
  case hyh4 => ((intro wz hSw); (simp only [Holds_cons, Holds_nil, and_true] at hSw); (obtain ⟨_, _, _, _, _, _, _, _, _, _, _, _, _, _, _, _, _, _, _, _, _, _, _, _, _, _, _, _, _, _⟩ := hSw); go_simp; (try with_reducible rfl))
  (try simp only [List.getElem_toArray, List.getElem_cons_succ, List.getElem_cons_zero, Act.put, List.setIfInBounds_toArray, List.set_cons_zero, List.set_cons_succ])
  refine wpAnyH_take (i := 4) (v := ?_) rfl (by kernel_rfl) (by kernel_rfl) (by kernel_rfl) (fun _ _ _ h => h) (Or.inl ⟨by rfl, ?hyh5⟩) hHeld ?_
  case hyh5 => ((intro wz hSw); (simp only [Holds_cons, Holds_nil, and_true] at hSw); (obtain ⟨_, _, _, _, _, _, _, _, _, _, _, _, _, _, _, _, _, _, _, _, _, _, _, _, _, _, _, _, _, _⟩ := hSw); go_simp; (try with_reducible rfl))
  (try simp only [List.getElem_toArray, List.getElem_cons_succ, List.getElem_cons_zero, Act.put, List.setIfInBounds_toArray, List.set_cons_zero, List.set_cons_succ])
  refine wpAnyH_take (i := 5) (v := ?_) rfl (by kernel_rfl) (by kernel_rfl) (by kernel_rfl) (fun _ _ _ h => h) (Or.inl ⟨by rfl, ?hyh6⟩) hHeld ?_
  case hyh6 => ((intro wz hSw); (simp only [Holds_cons, Holds_nil, and_true] at hSw); (obtain ⟨_, _, _, _, _, _, _, _, _, _, _, _, _, _, _, _, _, _, _, _, _, _, _, _, _, _, _, _, _, _⟩ := hSw); go_simp; (try with_reducible rfl))
  (try simp only [List.getElem_toArray, List.getElem_cons_succ, List.getElem_cons_zero, Act.put, List.setIfInBounds_toArray, List.set_cons_zero, List.set_cons_succ])
  refine wpAnyH_take (i := 6) (v := ?_) rfl (by kernel_rfl) (by kernel_rfl) (by kernel_rfl) (fun _ _ _ h => h) (Or.inl ⟨by rfl, ?hyh7⟩) hHeld ?_
  case hyh7 => ((intro wz hSw); (simp only [Holds_cons, Holds_nil, and_true] at hSw); (obtain ⟨_, _, _, _, _, _, _, _, _, _, _, _, _, _, _, _, _, _, _, _, _, _, _, _, _, _, _, _, _, _⟩ := hSw); go_simp; (try with_reducible rfl))
  (try simp only [List.getElem_toArray, List.getElem_cons_succ, List.getElem_cons_zero, Act.put, List.setIfInBounds_toArray, List.set_cons_zero, List.set_cons_succ])
  refine wpAnyH_take (i := 7) (v := ?_) rfl (by kernel_rfl) (by kernel_rfl) (by kernel_rfl) (fun _ _ _ h => h) (Or.inl ⟨by rfl, ?hyh8⟩) hHeld ?_
  case hyh8 => ((intro wz hSw); (simp only [Holds_cons, Holds_nil, and_true] at hSw); (obtain ⟨_, _, _, _, _, _, _, _, _, _, _, _, _, _, _, _, _, _, _, _, _, _, _, _, _, _, _, _, _, _⟩ := hSw); go_simp; (try with_reducible rfl))
  (try simp only [List.getElem_toArray, List.getElem_cons_succ, List.getElem_cons_zero, Act.put, List.setIfInBounds_toArray, List.set_cons_zero, List.set_cons_succ])
  refine wpAnyH_take (i := 8) (v := ?_) rfl (by kernel_rfl) (by kernel_rfl) (by kernel_rfl) (fun _ _ _ h => h) (Or.inl ⟨by rfl, ?hyh9⟩) hHeld ?_
  case hyh9 => ((intro wz hSw); (simp only [Holds_cons, Holds_nil, and_true] at hSw); (obtain ⟨_, _, _, _, _, _, _, _, _, _, _, _, _, _, _, _, _, _, _, _, _, _, _, _, _, _, _, _, _, _⟩ := hSw); go_simp; (try with_reducible rfl))
  (try simp only [List.getElem_toArray, List.getElem_cons_succ, List.getElem_cons_zero, Act.put, List.setIfInBounds_toArray, List.set_cons_zero, List.set_cons_succ])
  refine wpAnyH_take (i := 9) (v := ?_) rfl (by kernel_rfl) (by kernel_rfl) (by kernel_rfl) (fun _ _ _ h => h) (Or.inl ⟨by rfl, ?hyh10⟩) hHeld ?_
  case hyh10 => ((intro wz hSw); (simp only [Holds_cons, Holds_nil, and_true] at hSw); (obtain ⟨_, _, _, _, _, _, _, _, _, _, _, _, _, _, _, _, _, _, _, _, _, _, _, _, _, _, _, _, _, _⟩ := hSw); go_simp; (try with_reducible rfl))
  (try simp only [List.getElem_toArray, List.getElem_cons_succ, List.getElem_cons_zero, Act.put, List.setIfInBounds_toArray, List.set_cons_zero, List.set_cons_succ])
  refine wpAnyH_take (i := 10) (v := ?_) rfl (by kernel_rfl) (by kernel_rfl) (by kernel_rfl) (fun _ _ _ h => h) (Or.inl ⟨by rfl, ?hyh11⟩) hHeld ?_
  case hyh11 => ((intro wz hSw); (simp only [Holds_cons, Holds_nil, and_true] at hSw); (obtain ⟨_, _, _, _, _, _, _, _, _, _, _, _, _, _, _, _, _, _, _, _, _, _, _, _, _, _, _, _, _, _⟩ := hSw); go_simp; (try with_reducible rfl))
  (try simp only [List.getElem_toArray, List.getElem_cons_succ, List.getElem_cons_zero, Act.put, List.setIfInBounds_toArray, List.set_cons_zero, List.set_cons_succ])
  refine wpAnyH_ready (rs := [11]) (by kernel_rfl) (by simp) ?_
  refine AllReadyH.cons rfl (fun K hK => ?_) AllReadyH.nil
  go_simp
  (with_reducible refine (specSameNotation_y k2 A2 na2 ca2 B2 nb2 cb2 S2 ns2 cs2 P2 np2 cp2 Q2 nq2 cq2 X k3 A3 na3 ca3 B3 nb3 cb3 S3 ns3 cs3 P3 np3 cp3 Q3 nq3 cq3 X true (sme_self X) _ (Qx.out.ext (Ext.refl _)) (Qo.out.ext (Ext.refl _))).mono ?_)
  rintro e v1 ⟨rfl, hxv⟩
  (try go_wp2_with fail)
  have hv1 : Hid (Ext ((w9.alloc (.cells #[.int .i64 k5, .slice A5 na5 ca5, .slice B5 nb5 cb5, .slice S5 ns5 cs5, .slice P5 np5 cp5, .slice Q5 nq5 cq5] 33)).alloc (.cells #[.int .i64 k6, .slice A6 na6 ca6, .slice B6 nb6 cb6, .slice S6 ns6 cs6, .slice P6 np6 cp6, .slice Q6 nq6 cq6] 33)).drew v1) := hxv
  refine hK.out _ _ (HoldsC hHeld hxv) (fun hHeldN => ?_)
  clear hK K hHeld
  have hHeld := hHeldN
  clear hHeldN
  (try simp only [List.getElem_toArray, List.getElem_cons_succ, List.getElem_cons_zero, Act.put, List.setIfInBounds_toArray, List.set_cons_zero, List.set_cons_succ])
  refine wpAnyH_take (i := 12) (v := ?_) rfl (by kernel_rfl) (by kernel_rfl) (by kernel_rfl) (fun _ _ _ h => h) (Or.inl ⟨by rfl, ?hyh12⟩) hHeld ?_
  case hyh12 => ((intro wz hSw); (simp only [Holds_cons, Holds_nil, and_true] at hSw); (obtain ⟨_, _, _, _, _, _, _, _, _, _, _, _, _, _, _, _, _, _, _, _, _, _, _, _, _, _, _, _, _, _⟩ := hSw); go_simp; (try with_reducible rfl))
  (try simp only [List.getElem_toArray, List.getElem_cons_succ, List.getElem_cons_zero, Act.put, List.setIfInBounds_toArray, List.set_cons_zero, List.set_cons_succ])
  refine wpAnyH_take (i := 13) (v := ?_) rfl (by kernel_rfl) (by kernel_rfl) (by kernel_rfl) (fun _ _ _ h => h) (Or.inl ⟨by rfl, ?hyh13⟩) hHeld ?_
  case hyh13 => ((intro wz hSw); (simp only [Holds_cons, Holds_nil, and_true] at hSw); (obtain ⟨_, _, _, _, _, _, _, _, _, _, _, _, _, _, _, _, _, _, _, _, _, _, _, _, _, _, _, _, _, _⟩ := hSw); go_simp; (try with_reducible rfl))
  (try simp only [List.getElem_toArray, List.getElem_cons_succ, List.getElem_cons_zero, Act.put, List.setIfInBounds_toArray, List.set_cons_zero, List.set_cons_succ])
  refine wpAnyH_take (i := 14) (v := ?_) rfl (by kernel_rfl) (by kernel_rfl) (by kernel_rfl) (fun _ _ _ h => h) (Or.inl ⟨by rfl, ?hyh14⟩) hHeld ?_
  case hyh14 => ((intro wz hSw); (simp only [Holds_cons, Holds_nil, and_true] at hSw); (obtain ⟨_, _, _, _, _, _, _, _, _, _, _, _, _, _, _, _, _, _, _, _, _, _, _, _, _, _, _, _, _, _⟩ := hSw); go_simp; (try with_reducible rfl))
  (try simp only [List.getElem_toArray, List.getElem_cons_succ, List.getElem_cons_zero, Act.put, List.setIfInBounds_toArray, List.set_cons_zero, List.set_cons_succ])
  refine wpAnyH_take (i := 15) (v := ?_) rfl (by kernel_rfl) (by kernel_rfl) (by kernel_rfl) (fun _ _ _ h => h) (Or.inl ⟨by rfl, ?hyh15⟩) hHeld ?_
  case hyh15 => ((intro wz hSw); (simp only [Holds_cons, Holds_nil, and_true] at hSw); (obtain ⟨_, _, _, _, _, _, _, _, _, _, _, _, _, _, _, _, _, _, _, _, _, _, _, _, _, _, _, _, _, _⟩ := hSw); go_simp; (try with_reducible rfl))
  (try simp only [List.getElem_toArray, List.getElem_cons_succ, List.getElem_cons_zero, Act.put, List.setIfInBounds_toArray, List.set_cons_zero, List.set_cons_succ])
  refine wpAnyH_take (i := 16) (v := ?_) rfl (by kernel_rfl) (by kernel_rfl) (by kernel_rfl) (fun _ _ _ h => h) (Or.inl ⟨by rfl, ?hyh16⟩) hHeld ?_
  case hyh16 => ((intro wz hSw); (simp only [Holds_cons, Holds_nil, and_true] at hSw); (obtain ⟨_, _, _, _, _, _, _, _, _, _, _, _, _, _, _, _, _, _, _, _, _, _, _, _, _, _, _, _, _, _⟩ := hSw); go_simp; (try with_reducible rfl))
  (try simp only [List.getElem_toArray, List.getElem_cons_succ, List.getElem_cons_zero, Act.put, List.setIfInBounds_toArray, List.set_cons_zero, List.set_cons_succ])
  refine wpAnyH_take (i := 17) (v := ?_) rfl (by kernel_rfl) (by kernel_rfl) (by kernel_rfl) (fun _ _ _ h => h) (Or.inl ⟨by rfl, ?hyh17⟩) hHeld ?_
  case hyh17 => ((intro wz hSw); (simp only [Holds_cons, Holds_nil, and_true] at hSw); (obtain ⟨_, _, _, _, _, _, _, _, _, _, _, _, _, _, _, _, _, _, _, _, _, _, _, _, _, _, _, _, _, _⟩ := hSw); go_simp; (try with_reducible rfl))
  (try simp only [List.getElem_toArray, List.getElem_cons_succ, List.getElem_cons_zero, Act.put, List.setIfInBounds_toArray, List.set_cons_zero, List.set_cons_succ])
  refine wpAnyH_take (i := 18) (v := ?_) rfl (by kernel_rfl) (by kernel_rfl) (by kernel_rfl) (fun _ _ _ h => h) (Or.inl ⟨by rfl, ?hyh18⟩) hHeld ?_
  case hyh18 => ((intro wz hSw); (simp only [Holds_cons, Holds_nil, and_true] at hSw); (obtain ⟨_, _, _, _, _, _, _, _, _, _, _, _, _, _, _, _, _, _, _, _, _, _, _, _, _, _, _, _, _, _⟩ := hSw); go_simp; (try with_reducible rfl))
  (try simp only [List.getElem_toArray, List.getElem_cons_succ, List.getElem_cons_zero, Act.put, List.setIfInBounds_toArray, List.set_cons_zero, List.set_cons_succ])
  refine wpAnyH_take (i := 19) (v := ?_) rfl (by kernel_rfl) (by kernel_rfl) (by kernel_rfl) (fun _ _ _ h => h) (Or.inl ⟨by rfl, ?hyh19⟩) hHeld ?_
  case hyh19 => ((intro wz hSw); (simp only [Holds_cons, Holds_nil, and_true] at hSw); (obtain ⟨_, _, _, _, _, _, _, _, _, _, _, _, _, _, _, _, _, _, _, _, _, _, _, _, _, _, _, _, _, _⟩ := hSw); go_simp; (try with_reducible rfl))
  (try simp only [List.getElem_toArray, List.getElem_cons_succ, List.getElem_cons_zero, Act.put, List.setIfInBounds_toArray, List.set_cons_zero, List.set_cons_succ])
  refine wpAnyH_take (i := 20) (v := ?_) rfl (by kernel_rfl) (by kernel_rfl) (by kernel_rfl) (fun _ _ _ h => h) (Or.inl ⟨by rfl, ?hyh20⟩) hHeld ?_
  case hyh20 => ((intro wz hSw); (simp only [Holds_cons, Holds_nil, and_true] at hSw); (obtain ⟨_, _, _, _, _, _, _, _, _, _, _, _, _, _, _, _, _, _, _, _, _, _, _, _, _, _, _, _, _, _⟩ := hSw); go_simp; (try with_reducible rfl))
  (try simp only [List.getElem_toArray, List.getElem_cons_succ, List.getElem_cons_zero, Act.put, List.setIfInBounds_toArray, List.set_cons_zero, List.set_cons_succ])
  refine wpAnyH_take (i := 21) (v := ?_) rfl (by kernel_rfl) (by kernel_rfl) (by kernel_rfl) (fun _ _ _ h => h) (Or.inl ⟨by rfl, ?hyh21⟩) hHeld ?_
  case hyh21 => ((intro wz hSw); (simp only [Holds_cons, Holds_nil, and_true] at hSw); (obtain ⟨_, _, _, _, _, _, _, _, _, _, _, _, _, _, _, _, _, _, _, _, _, _, _, _, _, _, _, _, _, _⟩ := hSw); go_simp; (try with_reducible rfl))
  (try simp only [List.getElem_toArray, List.getElem_cons_succ, List.getElem_cons_zero, Act.put, List.setIfInBounds_toArray, List.set_cons_zero, List.set_cons_succ])
  refine wpAnyH_take (i := 22) (v := ?_) rfl (by kernel_rfl) (by kernel_rfl) (by kernel_rfl) (fun _ _ _ h => h) (Or.inl ⟨by rfl, ?hyh22⟩) hHeld ?_
  case hyh22 => ((intro wz hSw); (simp only [Holds_cons, Holds_nil, and_true] at hSw); (obtain ⟨_, _, _, _, _, _, _, _, _, _, _, _, _, _, _, _, _, _, _, _, _, _, _, _, _, _, _, _, _, _⟩ := hSw); go_simp; (try with_reducible rfl))
  (try simp only [List.getElem_toArray, List.getElem_cons_succ, List.getElem_cons_zero, Act.put, List.setIfInBounds_toArray, List.set_cons_zero, List.set_cons_succ])
  refine wpAnyH_take (i := 23) (v := ?_) rfl (by kernel_rfl) (by kernel_rfl) (by kernel_rfl) (fun _ _ _ h => h) (Or.inl ⟨by rfl, ?hyh23⟩) hHeld ?_
  case hyh23 => ((intro wz hSw); (simp only [Holds_cons, Holds_nil, and_true] at hSw); (obtain ⟨_, _, _, _, _, _, _, _, _, _, _, _, _, _, _, _, _, _, _, _, _, _, _, _, _, _, _, _, _, _⟩ := hSw); go_simp; (try with_reducible rfl))
  (try simp only [List.getElem_toArray, List.getElem_cons_succ, List.getElem_cons_zero, Act.put, List.setIfInBounds_toArray, List.set_cons_zero, List.set_cons_succ])
  refine wpAnyH_take (i := 24) (v := ?_) rfl (by kernel_rfl) (by kernel_rfl) (by kernel_rfl) (fun _ _ _ h => h) (Or.inl ⟨by rfl, ?hyh24⟩) hHeld ?_
  case hyh24 => ((intro wz hSw); (simp only [Holds_cons, Holds_nil, and_true] at hSw); (obtain ⟨_, _, _, _, _, _, _, _, _, _, _, _, _, _, _, _, _, _, _, _, _, _, _, _, _, _, _, _, _, _⟩ := hSw); go_simp; (try with_reducible rfl))
  (try simp only [List.getElem_toArray, List.getElem_cons_succ, List.getElem_cons_zero, Act.put, List.setIfInBounds_toArray, List.set_cons_zero, List.set_cons_succ])
  refine wpAnyH_take (i := 25) (v := ?_) rfl (by kernel_rfl) (by kernel_rfl) (by kernel_rfl) (fun _ _ _ h => h) (Or.inl ⟨by rfl, ?hyh25⟩) hHeld ?_
  case hyh25 => ((intro wz hSw); (simp only [Holds_cons, Holds_nil, and_true] at hSw); (obtain ⟨_, _, _, _, _, _, _, _, _, _, _, _, _, _, _, _, _, _, _, _, _, _, _, _, _, _, _, _, _, _⟩ := hSw); go_simp; (try with_reducible rfl))
  (try simp only [List.getElem_toArray, List.getElem_cons_succ, List.getElem_cons_zero, Act.put, List.setIfInBounds_toArray, List.set_cons_zero, List.set_cons_succ])
  refine wpAnyH_take (i := 26) (v := ?_) rfl (by kernel_rfl) (by kernel_rfl) (by kernel_rfl) (fun _ _ _ h => h) (Or.inl ⟨by rfl, ?hyh26⟩) hHeld ?_
  case hyh26 => ((intro wz hSw); (simp only [Holds_cons, Holds_nil, and_true] at hSw); (obtain ⟨_, _, _, _, _, _, _, _, _, _, _, _, _, _, _, _, _, _, _, _, _, _, _, _, _, _, _, _, _, _⟩ := hSw); go_simp; (try with_reducible rfl))
  (try simp only [List.getElem_toArray, List.getElem_cons_succ, List.getElem_cons_zero, Act.put, List.setIfInBounds_toArray, List.set_cons_zero, List.set_cons_succ])
  refine wpAnyH_take (i := 27) (v := ?_) rfl (by kernel_rfl) (by kernel_rfl) (by kernel_rfl) (fun _ _ _ h => h) (Or.inl ⟨by rfl, ?hyh27⟩) hHeld ?_
  case hyh27 => ((intro wz hSw); (simp only [Holds_cons, Holds_nil, and_true] at hSw); (obtain ⟨_, _, _, _, _, _, _, _, _, _, _, _, _, _, _, _, _, _, _, _, _, _, _, _, _, _, _, _, _, _⟩ := hSw); go_simp; (try with_reducible rfl))
  (try simp only [List.getElem_toArray, List.getElem_cons_succ, List.getElem_cons_zero, Act.put, List.setIfInBounds_toArray, List.set_cons_zero, List.set_cons_succ])
  refine wpAnyH_take (i := 28) (v := ?_) rfl (by kernel_rfl) (by kernel_rfl) (by kernel_rfl) (fun _ _ _ h => h) (Or.inl ⟨by rfl, ?hyh28⟩) hHeld ?_
  case hyh28 => ((intro wz hSw); (simp only [Holds_cons, Holds_nil, and_true] at hSw); (obtain ⟨_, _, _, _, _, _, _, _, _, _, _, _, _, _, _, _, _, _, _, _, _, _, _, _, _, _, _, _, _, _⟩ := hSw); go_simp; (try with_reducible rfl))
  (try simp only [List.getElem_toArray, List.getElem_cons_succ, List.getElem_cons_zero, Act.put, List.setIfInBounds_toArray, List.set_cons_zero, List.set_cons_succ])
  refine wpAnyH_take (i := 29) (v := ?_) rfl (by kernel_rfl) (by kernel_rfl) (by kernel_rfl) (fun _ _ _ h => h) (Or.inl ⟨by rfl, ?hyh29⟩) hHeld ?_
  case hyh29 => ((intro wz hSw); (simp only [Holds_cons, Holds_nil, and_true] at hSw); (obtain ⟨_, _, _, _, _, _, _, _, _, _, _, _, _, _, _, _, _, _, _, _, _, _, _, _, _, _, _, _, _, _⟩ := hSw); go_simp; (try with_reducible rfl))
  (try simp only [List.getElem_toArray, List.getElem_cons_succ, List.getElem_cons_zero, Act.put, List.setIfInBounds_toArray, List.set_cons_zero, List.set_cons_succ])
  refine wpAnyH_take (i := 30) (v := ?_) rfl (by kernel_rfl) (by kernel_rfl) (by kernel_rfl) (fun _ _ _ h => h) (Or.inl ⟨by rfl, ?hyh30⟩) hHeld ?_
  case hyh30 => ((intro wz hSw); (simp only [Holds_cons, Holds_nil, and_true] at hSw); (obtain ⟨_, _, _, _, _, _, _, _, _, _, _, _, _, _, _, _, _, _, _, _, _, _, _, _, _, _, _, _, _, _⟩ := hSw); go_simp; (try with_reducible rfl))
  (try simp only [List.getElem_toArray, List.getElem_cons_succ, List.getElem_cons_zero, Act.put, List.setIfInBounds_toArray, List.set_cons_zero, List.set_cons_succ])
  refine wpAnyH_take (i := 31) (v := ?_) rfl (by kernel_rfl) (by kernel_rfl) (by kernel_rfl) (fun _ _ _ h => h) (Or.inl ⟨by rfl, ?hyh31⟩) hHeld ?_
  case hyh31 => ((intro wz hSw); (simp only [Holds_cons, Holds_nil, and_true] at hSw); (obtain ⟨_, _, _, _, _, _, _, _, _, _, _, _, _, _, _, _, _, _, _, _, _, _, _, _, _, _, _, _, _, _⟩ := hSw); go_simp; (try with_reducible rfl))
  (try simp only [List.getElem_toArray, List.getElem_cons_succ, List.getElem_cons_zero, Act.put, List.setIfInBounds_toArray, List.set_cons_zero, List.set_cons_succ])
  refine wpAnyH_take (i := 32) (v := ?_) rfl (by kernel_rfl) (by kernel_rfl) (by kernel_rfl) (fun _ _ _ h => h) (Or.inl ⟨by rfl, ?hyh32⟩) hHeld ?_
  case hyh32 => ((intro wz hSw); (simp only [Holds_cons, Holds_nil, and_true] at hSw); (obtain ⟨_, _, _, _, _, _, _, _, _, _, _, _, _, _, _, _, _, _, _, _, _, _, _, _, _, _, _, _, _, _⟩ := hSw); go_simp; (try with_reducible rfl))
  (try simp only [List.getElem_toArray, List.getElem_cons_succ, List.getElem_cons_zero, Act.put, List.setIfInBounds_toArray, List.set_cons_zero, List.set_cons_succ])
  refine wpAnyH_take (i := 33) (v := ?_) rfl (by kernel_rfl) (by kernel_rfl) (by kernel_rfl) (fun _ _ _ h => h) (Or.inl ⟨by rfl, ?hyh33⟩) hHeld ?_
  case hyh33 => ((intro wz hSw); (simp only [Holds_cons, Holds_nil, and_true] at hSw); (obtain ⟨_, _, _, _, _, _, _, _, _, _, _, _, _, _, _, _, _, _, _, _, _, _, _, _, _, _, _, _, _, _⟩ := hSw); go_simp; (try with_reducible rfl))
  (try simp only [List.getElem_toArray, List.getElem_cons_succ, List.getElem_cons_zero, Act.put, List.setIfInBounds_toArray, List.set_cons_zero, List.set_cons_succ])
  refine wpAnyH_take (i := 34) (v := ?_) rfl (by kernel_rfl) (by kernel_rfl) (by kernel_rfl) (fun _ _ _ h => h) (Or.inl ⟨by rfl, ?hyh34⟩) hHeld ?_
  case hyh34 => ((intro wz hSw); (simp only [Holds_cons, Holds_nil, and_true] at hSw); (obtain ⟨_, _, _, _, _, _, _, _, _, _, _, _, _, _, _, _, _, _, _, _, _, _, _, _, _, _, _, _, _, _⟩ := hSw); go_simp; (try with_reducible rfl))
  (try simp only [List.getElem_toArray, List.getElem_cons_succ, List.getElem_cons_zero, Act.put, List.setIfInBounds_toArray, List.set_cons_zero, List.set_cons_succ])
  refine wpAnyH_take (i := 35) (v := ?_) rfl (by kernel_rfl) (by kernel_rfl) (by kernel_rfl) (fun _ _ _ h => h) (Or.inl ⟨by rfl, ?hyh35⟩) hHeld ?_
  case hyh35 => ((intro wz hSw); (simp only [Holds_cons, Holds_nil, and_true] at hSw); (obtain ⟨_, _, _, _, _, _, _, _, _, _, _, _, _, _, _, _, _, _, _, _, _, _, _, _, _, _, _, _, _, _⟩ := hSw); go_simp; (try with_reducible rfl))
  (try simp only [List.getElem_toArray, List.getElem_cons_succ, List.getElem_cons_zero, Act.put, List.setIfInBounds_toArray, List.set_cons_zero, List.set_cons_succ])
  refine wpAnyH_take (i := 36) (v := ?_) rfl (by kernel_rfl) (by kernel_rfl) (by kernel_rfl) (fun _ _ _ h => h) (Or.inl ⟨by rfl, ?hyh36⟩) hHeld ?_
  case hyh36 => ((intro wz hSw); (simp only [Holds_cons, Holds_nil, and_true] at hSw); (obtain ⟨_, _, _, _, _, _, _, _, _, _, _, _, _, _, _, _, _, _, _, _, _, _, _, _, _, _, _, _, _, _⟩ := hSw); go_simp; (try with_reducible rfl))
  (try simp only [List.getElem_toArray, List.getElem_cons_succ, List.getElem_cons_zero, Act.put, List.setIfInBounds_toArray, List.set_cons_zero, List.set_cons_succ])
  refine wpAnyH_take (i := 38) (v := ?_) rfl (by kernel_rfl) (by kernel_rfl) (by kernel_rfl) (fun _ _ _ h => h) (Or.inl ⟨by rfl, ?hyh37⟩) hHeld ?_
  case hyh37 => ((intro wz hSw); (simp only [Holds_cons, Holds_nil, and_true] at hSw); (obtain ⟨_, _, _, _, _, _, _, _, _, _, _, _, _, _, _, _, _, _, _, _, _, _, _, _, _, _, _, _, _, _⟩ := hSw); go_simp; (try with_reducible rfl))
  (try simp only [List.getElem_toArray, List.getElem_cons_succ, List.getElem_cons_zero, Act.put, List.setIfInBounds_toArray, List.set_cons_zero, List.set_cons_succ])
  refine wpAnyH_take (i := 39) (v := ?_) rfl (by kernel_rfl) (by kernel_rfl) (by kernel_rfl) (fun _ _ _ h => h) (Or.inl ⟨by rfl, ?hyh38⟩) hHeld ?_
  case hyh38 => ((intro wz hSw); (simp only [Holds_cons, Holds_nil, and_true] at hSw); (obtain ⟨_, _, _, _, _, _, _, _, _, _, _, _, _, _, _, _, _, _, _, _, _, _, _, _, _, _, _, _, _, _⟩ := hSw); go_simp; (try with_reducible rfl))
  (try simp only [List.getElem_toArray, List.getElem_cons_succ, List.getElem_cons_zero, Act.put, List.setIfInBounds_toArray, List.set_cons_zero, List.set_cons_succ])
  refine wpAnyH_ready (rs := [37]) (by kernel_rfl) (by simp) ?_
  refine AllReadyH.cons rfl (fun K hK => ?_) AllReadyH.nil
  go_simp
  (with_reducible refine (implSameNotation_y k5 A5 na5 ca5 B5 nb5 cb5 S5 ns5 cs5 P5 np5 cp5 Q5 nq5 cq5 D5 k6 A6 na6 ca6 B6 nb6 cb6 S6 ns6 cs6 P6 np6 cp6 Q6 nq6 cq6 D6 vs HVS.out _ (Qa.out.ext hv1.out) (Qb.out.ext hv1.out)).mono ?_)
  rintro e v2 ⟨rfl, hxv⟩
  (try go_wp2_with fail)
  have hv2 : Hid (Ext ((w9.alloc (.cells #[.int .i64 k5, .slice A5 na5 ca5, .slice B5 nb5 cb5, .slice S5 ns5 cs5, .slice P5 np5 cp5, .slice Q5 nq5 cq5] 33)).alloc (.cells #[.int .i64 k6, .slice A6 na6 ca6, .slice B6 nb6 cb6, .slice S6 ns6 cs6, .slice P6 np6 cp6, .slice Q6 nq6 cq6] 33)).drew v2) := hv1.out.trans hxv
  refine hK.out _ _ (HoldsC hHeld hxv) (fun hHeldN => ?_)
  clear hK K hHeld
  have hHeld := hHeldN
  clear hHeldN
  (try simp only [List.getElem_toArray, List.getElem_cons_succ, List.getElem_cons_zero, Act.put, List.setIfInBounds_toArray, List.set_cons_zero, List.set_cons_succ])
  refine wpAnyH_ready (rs := [40]) (by kernel_rfl) (by simp) ?_
  refine AllReadyH.cons rfl (fun K hK => ?_) AllReadyH.nil
  go_simp
  (with_reducible refine (specSameNotation_y k5 A5 na5 ca5 B5 nb5 cb5 S5 ns5 cs5 P5 np5 cp5 Q5 nq5 cq5 D5 k6 A6 na6 ca6 B6 nb6 cb6 S6 ns6 cs6 P6 np6 cp6 Q6 nq6 cq6 D6 vs HVS.out _ (Qa.out.ext hv2.out) (Qb.out.ext hv2.out)).mono ?_)
  rintro e v3 ⟨rfl, hxv⟩
  (try go_wp2_with fail)
  have hv3 : Hid (Ext ((w9.alloc (.cells #[.int .i64 k5, .slice A5 na5 ca5, .slice B5 nb5 cb5, .slice S5 ns5 cs5, .slice P5 np5 cp5, .slice Q5 nq5 cq5] 33)).alloc (.cells #[.int .i64 k6, .slice A6 na6 ca6, .slice B6 nb6 cb6, .slice S6 ns6 cs6, .slice P6 np6 cp6, .slice Q6 nq6 cq6] 33)).drew v3) := hv2.out.trans hxv
  refine hK.out _ _ (HoldsC hHeld hxv) (fun hHeldN => ?_)
  clear hK K hHeld
  have hHeld := hHeldN
  clear hHeldN
  (try simp only [List.getElem_toArray, List.getElem_cons_succ, List.getElem_cons_zero, Act.put, List.setIfInBounds_toArray, List.set_cons_zero, List.set_cons_succ])
  refine wpAnyH_take (i := 41) (v := ?_) rfl (by kernel_rfl) (by kernel_rfl) (by kernel_rfl) (fun _ _ _ h => h) (Or.inl ⟨by rfl, ?hyh39⟩) hHeld ?_
  case hyh39 => ((intro wz hSw); (simp only [Holds_cons, Holds_nil, and_true] at hSw); (obtain ⟨_, _, _, _, _, _, _, _, _, _, _, _, _, _, _, _, _, _, _, _, _, _, _, _, _, _, _, _, _, _⟩ := hSw); go_simp; (try with_reducible rfl))
  (try simp only [List.getElem_toArray, List.getElem_cons_succ, List.getElem_cons_zero, Act.put, List.setIfInBounds_toArray, List.set_cons_zero, List.set_cons_succ])
  refine wpAnyH_take (i := 42) (v := ?_) rfl (by kernel_rfl) (by kernel_rfl) (by kernel_rfl) (fun _ _ _ h => h) (Or.inl ⟨by rfl, ?hyh40⟩) hHeld ?_
  case hyh40 => ((intro wz hSw); (simp only [Holds_cons, Holds_nil, and_true] at hSw); (obtain ⟨_, _, _, _, _, _, _, _, _, _, _, _, _, _, _, _, _, _, _, _, _, _, _, _, _, _, _, _, _, _⟩ := hSw); go_simp; (try with_reducible rfl))
  (try simp only [List.getElem_toArray, List.getElem_cons_succ, List.getElem_cons_zero, Act.put, List.setIfInBounds_toArray, List.set_cons_zero, List.set_cons_succ])
  refine wpAnyH_take (i := 43) (v := ?_) rfl (by kernel_rfl) (by kernel_rfl) (by kernel_rfl) (fun _ _ _ h => h) (Or.inl ⟨by rfl, ?hyh41⟩) hHeld ?_
  case hyh41 => ((intro wz hSw); (simp only [Holds_cons, Holds_nil, and_true] at hSw); (obtain ⟨_, _, _, _, _, _, _, _, _, _, _, _, _, _, _, _, _, _, _, _, _, _, _, _, _, _, _, _, _, _⟩ := hSw); go_simp; (try with_reducible rfl))
  (try simp only [List.getElem_toArray, List.getElem_cons_succ, List.getElem_cons_zero, Act.put, List.setIfInBounds_toArray, List.set_cons_zero, List.set_cons_succ])
  refine wpAnyH_take (i := 44) (v := ?_) rfl (by kernel_rfl) (by kernel_rfl) (by kernel_rfl) (fun _ _ _ h => h) (Or.inl ⟨by rfl, ?hyh42⟩) hHeld ?_
  case hyh42 => ((intro wz hSw); (simp only [Holds_cons, Holds_nil, and_true] at hSw); (obtain ⟨_, _, _, _, _, _, _, _, _, _, _, _, _, _, _, _, _, _, _, _, _, _, _, _, _, _, _, _, _, _⟩ := hSw); go_simp; (try with_reducible rfl))
  (try simp only [List.getElem_toArray, List.getElem_cons_succ, List.getElem_cons_zero, Act.put, List.setIfInBounds_toArray, List.set_cons_zero, List.set_cons_succ])
  refine wpAnyH_take (i := 46) (v := ?_) rfl (by kernel_rfl) (by kernel_rfl) (by kernel_rfl) (fun _ _ _ h => h) (Or.inl ⟨by rfl, ?hyh43⟩) hHeld ?_
  case hyh43 => ((intro wz hSw); (simp only [Holds_cons, Holds_nil, and_true] at hSw); (obtain ⟨_, _, _, _, _, _, _, _, _, _, _, _, _, _, _, _, _, _, _, _, _, _, _, _, _, _, _, _, _, _⟩ := hSw); go_simp; (try with_reducible rfl))
  (try simp only [List.getElem_toArray, List.getElem_cons_succ, List.getElem_cons_zero, Act.put, List.setIfInBounds_toArray, List.set_cons_zero, List.set_cons_succ])
  refine wpAnyH_ready (rs := [45]) (by kernel_rfl) (by simp) ?_
  refine AllReadyH.cons rfl (fun K hK => ?_) AllReadyH.nil
  go_simp
  (with_reducible refine (ValidNotation_x k4 A4 na4 ca4 B4 nb4 cb4 S4 ns4 cs4 P4 np4 cp4 Q4 nq4 cq4 D4 vm HVM.out _ (Qm.out.ext hv3.out) HPm.out).mono ?_)
  rintro e v4 ⟨rfl, hxv⟩
  (try go_wp2_with fail)
  have hv4 : Hid (Ext ((w9.alloc (.cells #[.int .i64 k5, .slice A5 na5 ca5, .slice B5 nb5 cb5, .slice S5 ns5 cs5, .slice P5 np5 cp5, .slice Q5 nq5 cq5] 33)).alloc (.cells #[.int .i64 k6, .slice A6 na6 ca6, .slice B6 nb6 cb6, .slice S6 ns6 cs6, .slice P6 np6 cp6, .slice Q6 nq6 cq6] 33)).drew v4) := hv3.out.trans hxv
  refine hK.out _ _ (HoldsC hHeld hxv) (fun hHeldN => ?_)
  clear hK K hHeld
  have hHeld := hHeldN
  clear hHeldN
  (try simp only [List.getElem_toArray, List.getElem_cons_succ, List.getElem_cons_zero, Act.put, List.setIfInBounds_toArray, List.set_cons_zero, List.set_cons_succ])
  refine wpAnyH_ready (rs := [47]) (by kernel_rfl) (by simp) ?_
  refine AllReadyH.cons rfl (fun K hK => ?_) AllReadyH.nil
  go_simp
  (with_reducible refine (specValidNotation_y k4 A4 na4 ca4 B4 nb4 cb4 S4 ns4 cs4 P4 np4 cp4 Q4 nq4 cq4 D4 vm HVM.out _ (Qm.out.ext hv4.out)).mono ?_)
  rintro e v5 ⟨rfl, hxv⟩
  (try go_wp2_with fail)
  have hv5 : Hid (Ext ((w9.alloc (.cells #[.int .i64 k5, .slice A5 na5 ca5, .slice B5 nb5 cb5, .slice S5 ns5 cs5, .slice P5 np5 cp5, .slice Q5 nq5 cq5] 33)).alloc (.cells #[.int .i64 k6, .slice A6 na6 ca6, .slice B6 nb6 cb6, .slice S6 ns6 cs6, .slice P6 np6 cp6, .slice Q6 nq6 cq6] 33)).drew v5) := hv4.out.trans hxv
  refine hK.out _ _ (HoldsC hHeld hxv) (fun hHeldN => ?_)
  clear hK K hHeld
  have hHeld := hHeldN
  clear hHeldN
  (try simp only [List.getElem_toArray, List.getElem_cons_succ, List.getElem_cons_zero, Act.put, List.setIfInBounds_toArray, List.set_cons_zero, List.set_cons_succ])
  refine wpAnyH_take (i := 48) (v := ?_) rfl (by kernel_rfl) (by kernel_rfl) (by kernel_rfl) (fun _ _ _ h => h) (Or.inl ⟨by rfl, ?hyh44⟩) hHeld ?_
  case hyh44 => ((intro wz hSw); (simp only [Holds_cons, Holds_nil, and_true] at hSw); (obtain ⟨_, _, _, _, _, _, _, _, _, _, _, _, _, _, _, _, _, _, _, _, _, _, _, _, _, _, _, _, _, _⟩ := hSw); go_simp; (try with_reducible rfl))
  (try simp only [List.getElem_toArray, List.getElem_cons_succ, List.getElem_cons_zero, Act.put, List.setIfInBounds_toArray, List.set_cons_zero, List.set_cons_succ])
  refine wpAnyH_take (i := 49) (v := ?_) rfl (by kernel_rfl) (by kernel_rfl) (by kernel_rfl) (fun _ _ _ h => h) (Or.inl ⟨by rfl, ?hyh45⟩) hHeld ?_
  case hyh45 => ((intro wz hSw); (simp only [Holds_cons, Holds_nil, and_true] at hSw); (obtain ⟨_, _, _, _, _, _, _, _, _, _, _, _, _, _, _, _, _, _, _, _, _, _, _, _, _, _, _, _, _, _⟩ := hSw); go_simp; (try with_reducible rfl))
  (try simp only [List.getElem_toArray, List.getElem_cons_succ, List.getElem_cons_zero, Act.put, List.setIfInBounds_toArray, List.set_cons_zero, List.set_cons_succ])
  refine wpAnyH_done (by kernel_rfl) ?_ _
  clear hHeld cl_x0 cl_x1 cl_x2 cl_x3 cl_x4 cl_x5 cl_o0 cl_o1 cl_o2 cl_o3 cl_o4 cl_o5 cl_m0 cl_m1 cl_m2 cl_m3 cl_m4 cl_m5 cl_a0 cl_a1 cl_a2 cl_a3 cl_a4 cl_a5 cl_b0 cl_b1 cl_b2 cl_b3 cl_b4 cl_b5
  have Nn : Hid (NBox v5 w1.heap.size ⟨k1, A1, na1, ca1, B1, nb1, cb1, S1, ns1, cs1, P1, np1, cp1, Q1, nq1, cq1⟩) := NNn.out.ext hv5.out
  clear NNn
  have Nx : Hid (NBox v5 w2.heap.size ⟨k2, A2, na2, ca2, B2, nb2, cb2, S2, ns2, cs2, P2, np2, cp2, Q2, nq2, cq2⟩) := NNx.out.ext hv5.out
  clear NNx
  have Rn : Hid (NtR v5 ⟨k1, A1, na1, ca1, B1, nb1, cb1, S1, ns1, cs1, P1, np1, cp1, Q1, nq1, cq1⟩ D1) := Qn.out.ext hv5.out
  have Rx : Hid (NtR v5 ⟨k2, A2, na2, ca2, B2, nb2, cb2, S2, ns2, cs2, P2, np2, cp2, Q2, nq2, cq2⟩ X) := Qx.out.ext hv5.out
  have hE : Hid (Ext w v5) := hE0.out.trans hv5.out
  clear Qn Qx Qo Qm Qa Qb hE0 hv1 hv2 hv3 hv4 hv5
  by_cases hbad : bad = 0
  rotate_left
  · have hbb : (bad == 0) = false := beq_eq_false_iff_ne.2 hbad
    clear hbad
    go_wp2
    go_ret
    exact ⟨rfl, Ext.below hE.out⟩
  subst hbad
  have HF : Hid (FcOk D1 q X) := fc_ok HD1.out.2.2 HR.out
  obtain rfl : k2 = q := by rw [← HF.out.k]; exact Rx.out.k
  obtain ⟨⟨Y, sy, five⟩, hr6⟩ : ∃ r, cnv X k1 = r := ⟨_, rfl⟩
  have HY : Hid (Y.Sm ∧ Y.Bd) := by
    have h := cnv_ok HX.out.1 HX.out.2 (by have := HF.out.e; omega) k1
    rw [hr6] at h
    exact h
  have hbk := HF.out.back
  rw [← HK1.out, hr6] at hbk
  dsimp only at hbk
  have HR6 := Lib.hid hr6
  clear hr6
  have HBK := Lib.hid hbk
  clear hbk
  obtain ⟨zz_x, cl_x0, cl_x1, cl_x2, cl_x3, cl_x4, cl_x5⟩ := Nx.out
  dsimp only at cl_x0 cl_x1 cl_x2 cl_x3 cl_x4 cl_x5
  obtain ⟨zz_n, cl_n0, cl_n1, cl_n2, cl_n3, cl_n4, cl_n5⟩ := Nn.out
  dsimp only at cl_n0 cl_n1 cl_n2 cl_n3 cl_n4 cl_n5
  go_wp2_with fail
  (with_reducible refine (implConvert_y k2 A2 na2 ca2 B2 nb2 cb2 S2 ns2 cs2 P2 np2 cp2 Q2 nq2 cq2 X k1 Y sy five HR6.out _ (Rx.out.ext (by with_reducible (repeat (first | exact Ext.refl _ | apply Ext.drewN | apply Ext.drew | apply Ext.alloc | (refine Ext.set ?_ (by first | (simp; done) | (simp; omega) | omega) _) | (refine Ext.trans ?_ (by assumption)))))) HPx.out).mono ?_)
  rintro e w10 ⟨V, rfl, hN, hx⟩
  clear zz_x cl_x0 cl_x1 cl_x2 cl_x3 cl_x4 cl_x5 zz_n cl_n0 cl_n1 cl_n2 cl_n3 cl_n4 cl_n5
  have hp : Ext v5 w10 := Ext.trans (by with_reducible (repeat (first | exact Ext.refl _ | apply Ext.drewN | apply Ext.drew | apply Ext.alloc | (refine Ext.set ?_ (by first | (simp; done) | (simp; omega) | omega) _) | (refine Ext.trans ?_ (by assumption))))) hx
  have hE' : Hid (Ext w w10) := hE.out.trans hp
  clear hE
  have hE := hE'
  clear hE'
  have N' : Hid (NBox w10 w1.heap.size ⟨k1, A1, na1, ca1, B1, nb1, cb1, S1, ns1, cs1, P1, np1, cp1, Q1, nq1, cq1⟩) := Nn.out.ext hp
  clear Nn
  have Nn := N'
  clear N'
  have N' : Hid (NBox w10 w2.heap.size ⟨k2, A2, na2, ca2, B2, nb2, cb2, S2, ns2, cs2, P2, np2, cp2, Q2, nq2, cq2⟩) := Nx.out.ext hp
  clear Nx
  have Nx := N'
  clear N'
  have R' : Hid (NtR w10 ⟨k1, A1, na1, ca1, B1, nb1, cb1, S1, ns1, cs1, P1, np1, cp1, Q1, nq1, cq1⟩ D1) := Rn.out.ext hp
  clear Rn
  have Rn := R'
  clear R'
  have R' : Hid (NtR w10 ⟨k2, A2, na2, ca2, B2, nb2, cb2, S2, ns2, cs2, P2, np2, cp2, Q2, nq2, cq2⟩ X) := Rx.out.ext hp
  clear Rx
  have Rx := R'
  clear R'
  obtain ⟨k7, A7, na7, ca7, B7, nb7, cb7, S7, ns7, cs7, P7, np7, cp7, Q7, nq7, cq7⟩ := V
  unfold NV.val
  dsimp only
  have Ry : Hid (NtR w10 ⟨k7, A7, na7, ca7, B7, nb7, cb7, S7, ns7, cs7, P7, np7, cp7, Q7, nq7, cq7⟩ Y) := hN.read HY.out.1 HY.out.2
  have HPy : Hid (np7 ≤ 1048576 ∧ nq7 ≤ 1048576) := Ry.out.pq HY.out.1
  clear hN hp hx
  rcases HBK.out with ⟨rfl, hk4⟩ | ⟨rfl, hz1, hz2⟩
  · skip
    obtain rfl : k1 = 4 := hk4
    obtain ⟨zz_n, cl_n0, cl_n1, cl_n2, cl_n3, cl_n4, cl_n5⟩ := Nn.out
    dsimp only at cl_n0 cl_n1 cl_n2 cl_n3 cl_n4 cl_n5
    obtain ⟨zz_x, cl_x0, cl_x1, cl_x2, cl_x3, cl_x4, cl_x5⟩ := Nx.out
    dsimp only at cl_x0 cl_x1 cl_x2 cl_x3 cl_x4 cl_x5
    go_wp2_with fail
    (with_reducible refine (ValidNotation_x k2 A2 na2 ca2 B2 nb2 cb2 S2 ns2 cs2 P2 np2 cp2 Q2 nq2 cq2 X true HF.out.vx _ (Rx.out.ext (by with_reducible (repeat (first | exact Ext.refl _ | apply Ext.drewN | apply Ext.drew | apply Ext.alloc | (refine Ext.set ?_ (by first | (simp; done) | (simp; omega) | omega) _) | (refine Ext.trans ?_ (by assumption)))))) HPx.out).mono ?_)
    rintro e w20 ⟨rfl, hx⟩
    have hE2 : Hid (Ext w w20) := hE.out.trans (Ext.trans (by with_reducible (repeat (first | exact Ext.refl _ | apply Ext.drewN | apply Ext.drew | apply Ext.alloc | (refine Ext.set ?_ (by first | (simp; done) | (simp; omega) | omega) _) | (refine Ext.trans ?_ (by assumption))))) hx)
    go_wp2
    go_ret
    exact ⟨rfl, Ext.below hE2.out⟩
  obtain ⟨⟨Z, sz, six⟩, hr7⟩ : ∃ r, cnv Y k2 = r := ⟨_, rfl⟩
  rw [hr7] at hz1 hz2
  dsimp only at hz1 hz2
  subst hz1 hz2
  have HR7 := Lib.hid hr7
  clear hr7 HBK HR6
  obtain ⟨zz_n, cl_n0, cl_n1, cl_n2, cl_n3, cl_n4, cl_n5⟩ := Nn.out
  dsimp only at cl_n0 cl_n1 cl_n2 cl_n3 cl_n4 cl_n5
  go_wp2_with fail
  (with_reducible refine (implConvert_y k7 A7 na7 ca7 B7 nb7 cb7 S7 ns7 cs7 P7 np7 cp7 Q7 nq7 cq7 Y k2 Z sz 0 HR7.out _ (Ry.out.ext (by with_reducible (repeat (first | exact Ext.refl _ | apply Ext.drewN | apply Ext.drew | apply Ext.alloc | (refine Ext.set ?_ (by first | (simp; done) | (simp; omega) | omega) _) | (refine Ext.trans ?_ (by assumption)))))) HPy.out).mono ?_)
  rintro e w11 ⟨V, rfl, hN, hx⟩
  clear zz_n cl_n0 cl_n1 cl_n2 cl_n3 cl_n4 cl_n5
  have hp : Ext w10 w11 := Ext.trans (by with_reducible (repeat (first | exact Ext.refl _ | apply Ext.drewN | apply Ext.drew | apply Ext.alloc | (refine Ext.set ?_ (by first | (simp; done) | (simp; omega) | omega) _) | (refine Ext.trans ?_ (by assumption))))) hx
  have hE' : Hid (Ext w w11) := hE.out.trans hp
  clear hE
  have hE := hE'
  clear hE'
  have N' : Hid (NBox w11 w1.heap.size ⟨k1, A1, na1, ca1, B1, nb1, cb1, S1, ns1, cs1, P1, np1, cp1, Q1, nq1, cq1⟩) := Nn.out.ext hp
  clear Nn
  have Nn := N'
  clear N'
  have N' : Hid (NBox w11 w2.heap.size ⟨k2, A2, na2, ca2, B2, nb2, cb2, S2, ns2, cs2, P2, np2, cp2, Q2, nq2, cq2⟩) := Nx.out.ext hp
  clear Nx
  have Nx := N'
  clear N'
  have Ny : Hid (NBox w11 w10.heap.size ⟨k7, A7, na7, ca7, B7, nb7, cb7, S7, ns7, cs7, P7, np7, cp7, Q7, nq7, cq7⟩) := (NBox.newT w10 ⟨k7, A7, na7, ca7, B7, nb7, cb7, S7, ns7, cs7, P7, np7, cp7, Q7, nq7, cq7⟩ 33).ext hx
  have R' : Hid (NtR w11 ⟨k1, A1, na1, ca1, B1, nb1, cb1, S1, ns1, cs1, P1, np1, cp1, Q1, nq1, cq1⟩ D1) := Rn.out.ext hp
  clear Rn
  have Rn := R'
  clear R'
  have R' : Hid (NtR w11 ⟨k2, A2, na2, ca2, B2, nb2, cb2, S2, ns2, cs2, P2, np2, cp2, Q2, nq2, cq2⟩ Z) := Rx.out.ext hp
  clear Rx
  have Rx := R'
  clear R'
  have R' : Hid (NtR w11 ⟨k7, A7, na7, ca7, B7, nb7, cb7, S7, ns7, cs7, P7, np7, cp7, Q7, nq7, cq7⟩ Y) := Ry.out.ext hp
  clear Ry
  have Ry := R'
  clear R'
  obtain ⟨k8, A8, na8, ca8, B8, nb8, cb8, S8, ns8, cs8, P8, np8, cp8, Q8, nq8, cq8⟩ := V
  unfold NV.val
  dsimp only
  have Rg : Hid (NtR w11 ⟨k8, A8, na8, ca8, B8, nb8, cb8, S8, ns8, cs8, P8, np8, cp8, Q8, nq8, cq8⟩ Z) := hN.read HX.out.1 HX.out.2
  have HPg : Hid (np8 ≤ 1048576 ∧ nq8 ≤ 1048576) := Rg.out.pq HX.out.1
  clear hN hp hx
  obtain ⟨zz_x, cl_x0, cl_x1, cl_x2, cl_x3, cl_x4, cl_x5⟩ := Nx.out
  dsimp only at cl_x0 cl_x1 cl_x2 cl_x3 cl_x4 cl_x5
  go_wp2_with fail
  (with_reducible refine (ValidNotation_x k2 A2 na2 ca2 B2 nb2 cb2 S2 ns2 cs2 P2 np2 cp2 Q2 nq2 cq2 Z true HF.out.vx _ (Rx.out.ext (by with_reducible (repeat (first | exact Ext.refl _ | apply Ext.drewN | apply Ext.drew | apply Ext.alloc | (refine Ext.set ?_ (by first | (simp; done) | (simp; omega) | omega) _) | (refine Ext.trans ?_ (by assumption)))))) HPx.out).mono ?_)
  rintro e w12 ⟨rfl, hx⟩
  clear zz_x cl_x0 cl_x1 cl_x2 cl_x3 cl_x4 cl_x5
  have hp : Ext w11 w12 := Ext.trans (by with_reducible (repeat (first | exact Ext.refl _ | apply Ext.drewN | apply Ext.drew | apply Ext.alloc | (refine Ext.set ?_ (by first | (simp; done) | (simp; omega) | omega) _) | (refine Ext.trans ?_ (by assumption))))) hx
  have hE' : Hid (Ext w w12) := hE.out.trans hp
  clear hE
  have hE := hE'
  clear hE'
  have N' : Hid (NBox w12 w1.heap.size ⟨k1, A1, na1, ca1, B1, nb1, cb1, S1, ns1, cs1, P1, np1, cp1, Q1, nq1, cq1⟩) := Nn.out.ext hp
  clear Nn
  have Nn := N'
  clear N'
  have N' : Hid (NBox w12 w2.heap.size ⟨k2, A2, na2, ca2, B2, nb2, cb2, S2, ns2, cs2, P2, np2, cp2, Q2, nq2, cq2⟩) := Nx.out.ext hp
  clear Nx
  have Nx := N'
  clear N'
  have N' : Hid (NBox w12 w10.heap.size ⟨k7, A7, na7, ca7, B7, nb7, cb7, S7, ns7, cs7, P7, np7, cp7, Q7, nq7, cq7⟩) := Ny.out.ext hp
  clear Ny
  have Ny := N'
  clear N'
  have Ng : Hid (NBox w12 w11.heap.size ⟨k8, A8, na8, ca8, B8, nb8, cb8, S8, ns8, cs8, P8, np8, cp8, Q8, nq8, cq8⟩) := (NBox.newT w11 ⟨k8, A8, na8, ca8, B8, nb8, cb8, S8, ns8, cs8, P8, np8, cp8, Q8, nq8, cq8⟩ 33).ext hx
  have R' : Hid (NtR w12 ⟨k1, A1, na1, ca1, B1, nb1, cb1, S1, ns1, cs1, P1, np1, cp1, Q1, nq1, cq1⟩ D1) := Rn.out.ext hp
  clear Rn
  have Rn := R'
  clear R'
  have R' : Hid (NtR w12 ⟨k2, A2, na2, ca2, B2, nb2, cb2, S2, ns2, cs2, P2, np2, cp2, Q2, nq2, cq2⟩ Z) := Rx.out.ext hp
  clear Rx
  have Rx := R'
  clear R'
  have R' : Hid (NtR w12 ⟨k7, A7, na7, ca7, B7, nb7, cb7, S7, ns7, cs7, P7, np7, cp7, Q7, nq7, cq7⟩ Y) := Ry.out.ext hp
  clear Ry
  have Ry := R'
  clear R'
  have R' : Hid (NtR w12 ⟨k8, A8, na8, ca8, B8, nb8, cb8, S8, ns8, cs8, P8, np8, cp8, Q8, nq8, cq8⟩ Z) := Rg.out.ext hp
  clear Rg
  have Rg := R'
  clear R'
  clear hp hx
  obtain ⟨px, hpx⟩ : ∃ r, npr Z = r := ⟨_, rfl⟩
  obtain ⟨pn, hpn⟩ : ∃ r, npr D1 = r := ⟨_, rfl⟩
  obtain ⟨dx, hdx⟩ : ∃ r, nbt Z = r := ⟨_, rfl⟩
  obtain ⟨dn, hdn⟩ : ∃ r, nbt D1 = r := ⟨_, rfl⟩
  have hb1 := npr_bd HF.out.vx
  have hb2 := npr_bd HF.out.vd
  have hb3 := nbt_bd HF.out.vx
  have hb4 := nbt_bd HF.out.vd
  have hpp := HF.out.props
  have hbt := HF.out.beats
  rw [hpx] at hb1 hpp
  rw [hpn] at hb2 hpp
  rw [hdx] at hb3 hbt
  rw [hdn] at hb4 hbt
  rw [← HK1.out] at hpp
  have HPX := Lib.hid hpx
  have HPN := Lib.hid hpn
  have HDX := Lib.hid hdx
  have HDN := Lib.hid hdn
  have HPP := Lib.hid hpp
  have HBB := Lib.hid hbt
  clear hpx hpn hdx hdn hpp hbt
  obtain ⟨zz_x, cl_x0, cl_x1, cl_x2, cl_x3, cl_x4, cl_x5⟩ := Nx.out
  dsimp only at cl_x0 cl_x1 cl_x2 cl_x3 cl_x4 cl_x5
  go_wp2_with fail
  (with_reducible refine (implNotationProps_y k2 A2 na2 ca2 B2 nb2 cb2 S2 ns2 cs2 P2 np2 cp2 Q2 nq2 cq2 Z px 0 _ (Rx.out.ext (by with_reducible (repeat (first | exact Ext.refl _ | apply Ext.drewN | apply Ext.drew | apply Ext.alloc | (refine Ext.set ?_ (by first | (simp; done) | (simp; omega) | omega) _) | (refine Ext.trans ?_ (by assumption)))))) HPx.out (by rw [if_pos HF.out.vx]; exact HPX.out) (if_pos HF.out.vx)).mono ?_)
  rintro e w13 ⟨rfl, hx⟩
  clear zz_x cl_x0 cl_x1 cl_x2 cl_x3 cl_x4 cl_x5
  have hp : Ext w12 w13 := Ext.trans (by with_reducible (repeat (first | exact Ext.refl _ | apply Ext.drewN | apply Ext.drew | apply Ext.alloc | (refine Ext.set ?_ (by first | (simp; done) | (simp; omega) | omega) _) | (refine Ext.trans ?_ (by assumption))))) hx
  have hE' : Hid (Ext w w13) := hE.out.trans hp
  clear hE
  have hE := hE'
  clear hE'
  have N' : Hid (NBox w13 w1.heap.size ⟨k1, A1, na1, ca1, B1, nb1, cb1, S1, ns1, cs1, P1, np1, cp1, Q1, nq1, cq1⟩) := Nn.out.ext hp
  clear Nn
  have Nn := N'
  clear N'
  have N' : Hid (NBox w13 w2.heap.size ⟨k2, A2, na2, ca2, B2, nb2, cb2, S2, ns2, cs2, P2, np2, cp2, Q2, nq2, cq2⟩) := Nx.out.ext hp
  clear Nx
  have Nx := N'
  clear N'
  have N' : Hid (NBox w13 w10.heap.size ⟨k7, A7, na7, ca7, B7, nb7, cb7, S7, ns7, cs7, P7, np7, cp7, Q7, nq7, cq7⟩) := Ny.out.ext hp
  clear Ny
  have Ny := N'
  clear N'
  have N' : Hid (NBox w13 w11.heap.size ⟨k8, A8, na8, ca8, B8, nb8, cb8, S8, ns8, cs8, P8, np8, cp8, Q8, nq8, cq8⟩) := Ng.out.ext hp
  clear Ng
  have Ng := N'
  clear N'
  have R' : Hid (NtR w13 ⟨k1, A1, na1, ca1, B1, nb1, cb1, S1, ns1, cs1, P1, np1, cp1, Q1, nq1, cq1⟩ D1) := Rn.out.ext hp
  clear Rn
  have Rn := R'
  clear R'
  have R' : Hid (NtR w13 ⟨k2, A2, na2, ca2, B2, nb2, cb2, S2, ns2, cs2, P2, np2, cp2, Q2, nq2, cq2⟩ Z) := Rx.out.ext hp
  clear Rx
  have Rx := R'
  clear R'
  have R' : Hid (NtR w13 ⟨k7, A7, na7, ca7, B7, nb7, cb7, S7, ns7, cs7, P7, np7, cp7, Q7, nq7, cq7⟩ Y) := Ry.out.ext hp
  clear Ry
  have Ry := R'
  clear R'
  have R' : Hid (NtR w13 ⟨k8, A8, na8, ca8, B8, nb8, cb8, S8, ns8, cs8, P8, np8, cp8, Q8, nq8, cq8⟩ Z) := Rg.out.ext hp
  clear Rg
  have Rg := R'
  clear R'
  clear hp hx
  obtain ⟨zz_n, cl_n0, cl_n1, cl_n2, cl_n3, cl_n4, cl_n5⟩ := Nn.out
  dsimp only at cl_n0 cl_n1 cl_n2 cl_n3 cl_n4 cl_n5
  go_wp2_with fail
  (with_reducible refine (implNotationProps_y k1 A1 na1 ca1 B1 nb1 cb1 S1 ns1 cs1 P1 np1 cp1 Q1 nq1 cq1 D1 pn 0 _ (Rn.out.ext (by with_reducible (repeat (first | exact Ext.refl _ | apply Ext.drewN | apply Ext.drew | apply Ext.alloc | (refine Ext.set ?_ (by first | (simp; done) | (simp; omega) | omega) _) | (refine Ext.trans ?_ (by assumption)))))) HPn.out (by rw [if_pos HF.out.vd]; exact HPN.out) (if_pos HF.out.vd)).mono ?_)
  rintro e w14 ⟨rfl, hx⟩
  clear zz_n cl_n0 cl_n1 cl_n2 cl_n3 cl_n4 cl_n5
  have hp : Ext w13 w14 := Ext.trans (by with_reducible (repeat (first | exact Ext.refl _ | apply Ext.drewN | apply Ext.drew | apply Ext.alloc | (refine Ext.set ?_ (by first | (simp; done) | (simp; omega) | omega) _) | (refine Ext.trans ?_ (by assumption))))) hx
  have hE' : Hid (Ext w w14) := hE.out.trans hp
  clear hE
  have hE := hE'
  clear hE'
  have N' : Hid (NBox w14 w1.heap.size ⟨k1, A1, na1, ca1, B1, nb1, cb1, S1, ns1, cs1, P1, np1, cp1, Q1, nq1, cq1⟩) := Nn.out.ext hp
  clear Nn
  have Nn := N'
  clear N'
  have N' : Hid (NBox w14 w2.heap.size ⟨k2, A2, na2, ca2, B2, nb2, cb2, S2, ns2, cs2, P2, np2, cp2, Q2, nq2, cq2⟩) := Nx.out.ext hp
  clear Nx
  have Nx := N'
  clear N'
  have N' : Hid (NBox w14 w10.heap.size ⟨k7, A7, na7, ca7, B7, nb7, cb7, S7, ns7, cs7, P7, np7, cp7, Q7, nq7, cq7⟩) := Ny.out.ext hp
  clear Ny
  have Ny := N'
  clear N'
  have N' : Hid (NBox w14 w11.heap.size ⟨k8, A8, na8, ca8, B8, nb8, cb8, S8, ns8, cs8, P8, np8, cp8, Q8, nq8, cq8⟩) := Ng.out.ext hp
  clear Ng
  have Ng := N'
  clear N'
  have R' : Hid (NtR w14 ⟨k1, A1, na1, ca1, B1, nb1, cb1, S1, ns1, cs1, P1, np1, cp1, Q1, nq1, cq1⟩ D1) := Rn.out.ext hp
  clear Rn
  have Rn := R'
  clear R'
  have R' : Hid (NtR w14 ⟨k2, A2, na2, ca2, B2, nb2, cb2, S2, ns2, cs2, P2, np2, cp2, Q2, nq2, cq2⟩ Z) := Rx.out.ext hp
  clear Rx
  have Rx := R'
  clear R'
  have R' : Hid (NtR w14 ⟨k7, A7, na7, ca7, B7, nb7, cb7, S7, ns7, cs7, P7, np7, cp7, Q7, nq7, cq7⟩ Y) := Ry.out.ext hp
  clear Ry
  have Ry := R'
  clear R'
  have R' : Hid (NtR w14 ⟨k8, A8, na8, ca8, B8, nb8, cb8, S8, ns8, cs8, P8, np8, cp8, Q8, nq8, cq8⟩ Z) := Rg.out.ext hp
  clear Rg
  have Rg := R'
  clear R'
  clear hp hx
  by_cases q4 : k2 = 4
  · skip
    by_cases kk4 : k1 = 4
    · skip
      have hq4 : (k2 == 4) = true := beq_iff_eq.2 q4
      have hk4 : (k1 == 4) = true := beq_iff_eq.2 kk4
      obtain rfl : px = pn := by have h := HPP.out; rw [if_neg (fun h => h.2 q4), if_neg (fun h => h.2 kk4)] at h; exact h
      clear q4 kk4
      obtain ⟨zz_x, cl_x0, cl_x1, cl_x2, cl_x3, cl_x4, cl_x5⟩ := Nx.out
      dsimp only at cl_x0 cl_x1 cl_x2 cl_x3 cl_x4 cl_x5
      obtain ⟨zz_n, cl_n0, cl_n1, cl_n2, cl_n3, cl_n4, cl_n5⟩ := Nn.out
      dsimp only at cl_n0 cl_n1 cl_n2 cl_n3 cl_n4 cl_n5
      go_wp2_with fail
      (with_reducible refine (implNotationBeats_y k2 A2 na2 ca2 B2 nb2 cb2 S2 ns2 cs2 P2 np2 cp2 Q2 nq2 cq2 Z dx 0 _ (Rx.out.ext (by with_reducible (repeat (first | exact Ext.refl _ | apply Ext.drewN | apply Ext.drew | apply Ext.alloc | (refine Ext.set ?_ (by first | (simp; done) | (simp; omega) | omega) _) | (refine Ext.trans ?_ (by assumption)))))) HPx.out (by rw [if_pos HF.out.vx]; exact HDX.out) (if_pos HF.out.vx)).mono ?_)
      rintro e w15 ⟨rfl, hx⟩
      clear zz_x cl_x0 cl_x1 cl_x2 cl_x3 cl_x4 cl_x5 zz_n cl_n0 cl_n1 cl_n2 cl_n3 cl_n4 cl_n5
      have hp : Ext w14 w15 := Ext.trans (by with_reducible (repeat (first | exact Ext.refl _ | apply Ext.drewN | apply Ext.drew | apply Ext.alloc | (refine Ext.set ?_ (by first | (simp; done) | (simp; omega) | omega) _) | (refine Ext.trans ?_ (by assumption))))) hx
      have hE' : Hid (Ext w w15) := hE.out.trans hp
      clear hE
      have hE := hE'
      clear hE'
      have N' : Hid (NBox w15 w1.heap.size ⟨k1, A1, na1, ca1, B1, nb1, cb1, S1, ns1, cs1, P1, np1, cp1, Q1, nq1, cq1⟩) := Nn.out.ext hp
      clear Nn
      have Nn := N'
      clear N'
      have N' : Hid (NBox w15 w2.heap.size ⟨k2, A2, na2, ca2, B2, nb2, cb2, S2, ns2, cs2, P2, np2, cp2, Q2, nq2, cq2⟩) := Nx.out.ext hp
      clear Nx
      have Nx := N'
      clear N'
      have N' : Hid (NBox w15 w10.heap.size ⟨k7, A7, na7, ca7, B7, nb7, cb7, S7, ns7, cs7, P7, np7, cp7, Q7, nq7, cq7⟩) := Ny.out.ext hp
      clear Ny
      have Ny := N'
      clear N'
      have N' : Hid (NBox w15 w11.heap.size ⟨k8, A8, na8, ca8, B8, nb8, cb8, S8, ns8, cs8, P8, np8, cp8, Q8, nq8, cq8⟩) := Ng.out.ext hp
      clear Ng
      have Ng := N'
      clear N'
      have R' : Hid (NtR w15 ⟨k1, A1, na1, ca1, B1, nb1, cb1, S1, ns1, cs1, P1, np1, cp1, Q1, nq1, cq1⟩ D1) := Rn.out.ext hp
      clear Rn
      have Rn := R'
      clear R'
      have R' : Hid (NtR w15 ⟨k2, A2, na2, ca2, B2, nb2, cb2, S2, ns2, cs2, P2, np2, cp2, Q2, nq2, cq2⟩ Z) := Rx.out.ext hp
      clear Rx
      have Rx := R'
      clear R'
      have R' : Hid (NtR w15 ⟨k7, A7, na7, ca7, B7, nb7, cb7, S7, ns7, cs7, P7, np7, cp7, Q7, nq7, cq7⟩ Y) := Ry.out.ext hp
      clear Ry
      have Ry := R'
      clear R'
      have R' : Hid (NtR w15 ⟨k8, A8, na8, ca8, B8, nb8, cb8, S8, ns8, cs8, P8, np8, cp8, Q8, nq8, cq8⟩ Z) := Rg.out.ext hp
      clear Rg
      have Rg := R'
      clear R'
      clear hp hx
      obtain ⟨zz_n, cl_n0, cl_n1, cl_n2, cl_n3, cl_n4, cl_n5⟩ := Nn.out
      dsimp only at cl_n0 cl_n1 cl_n2 cl_n3 cl_n4 cl_n5
      go_wp2_with fail
      (with_reducible refine (implNotationBeats_y k1 A1 na1 ca1 B1 nb1 cb1 S1 ns1 cs1 P1 np1 cp1 Q1 nq1 cq1 D1 dn 0 _ (Rn.out.ext (by with_reducible (repeat (first | exact Ext.refl _ | apply Ext.drewN | apply Ext.drew | apply Ext.alloc | (refine Ext.set ?_ (by first | (simp; done) | (simp; omega) | omega) _) | (refine Ext.trans ?_ (by assumption)))))) HPn.out (by rw [if_pos HF.out.vd]; exact HDN.out) (if_pos HF.out.vd)).mono ?_)
      rintro e w16 ⟨rfl, hx⟩
      clear zz_n cl_n0 cl_n1 cl_n2 cl_n3 cl_n4 cl_n5
      have hp : Ext w15 w16 := Ext.trans (by with_reducible (repeat (first | exact Ext.refl _ | apply Ext.drewN | apply Ext.drew | apply Ext.alloc | (refine Ext.set ?_ (by first | (simp; done) | (simp; omega) | omega) _) | (refine Ext.trans ?_ (by assumption))))) hx
      have hE' : Hid (Ext w w16) := hE.out.trans hp
      clear hE
      have hE := hE'
      clear hE'
      have N' : Hid (NBox w16 w1.heap.size ⟨k1, A1, na1, ca1, B1, nb1, cb1, S1, ns1, cs1, P1, np1, cp1, Q1, nq1, cq1⟩) := Nn.out.ext hp
      clear Nn
      have Nn := N'
      clear N'
      have N' : Hid (NBox w16 w2.heap.size ⟨k2, A2, na2, ca2, B2, nb2, cb2, S2, ns2, cs2, P2, np2, cp2, Q2, nq2, cq2⟩) := Nx.out.ext hp
      clear Nx
      have Nx := N'
      clear N'
      have N' : Hid (NBox w16 w10.heap.size ⟨k7, A7, na7, ca7, B7, nb7, cb7, S7, ns7, cs7, P7, np7, cp7, Q7, nq7, cq7⟩) := Ny.out.ext hp
      clear Ny
      have Ny := N'
      clear N'
      have N' : Hid (NBox w16 w11.heap.size ⟨k8, A8, na8, ca8, B8, nb8, cb8, S8, ns8, cs8, P8, np8, cp8, Q8, nq8, cq8⟩) := Ng.out.ext hp
      clear Ng
      have Ng := N'
      clear N'
      have R' : Hid (NtR w16 ⟨k1, A1, na1, ca1, B1, nb1, cb1, S1, ns1, cs1, P1, np1, cp1, Q1, nq1, cq1⟩ D1) := Rn.out.ext hp
      clear Rn
      have Rn := R'
      clear R'
      have R' : Hid (NtR w16 ⟨k2, A2, na2, ca2, B2, nb2, cb2, S2, ns2, cs2, P2, np2, cp2, Q2, nq2, cq2⟩ Z) := Rx.out.ext hp
      clear Rx
      have Rx := R'
      clear R'
      have R' : Hid (NtR w16 ⟨k7, A7, na7, ca7, B7, nb7, cb7, S7, ns7, cs7, P7, np7, cp7, Q7, nq7, cq7⟩ Y) := Ry.out.ext hp
      clear Ry
      have Ry := R'
      clear R'
      have R' : Hid (NtR w16 ⟨k8, A8, na8, ca8, B8, nb8, cb8, S8, ns8, cs8, P8, np8, cp8, Q8, nq8, cq8⟩ Z) := Rg.out.ext hp
      clear Rg
      have Rg := R'
      clear R'
      clear hp hx
      by_cases hde : dx = dn
      · skip
        subst hde
        obtain ⟨zz_x, cl_x0, cl_x1, cl_x2, cl_x3, cl_x4, cl_x5⟩ := Nx.out
        dsimp only at cl_x0 cl_x1 cl_x2 cl_x3 cl_x4 cl_x5
        obtain ⟨zz_g, cl_g0, cl_g1, cl_g2, cl_g3, cl_g4, cl_g5⟩ := Ng.out
        dsimp only at cl_g0 cl_g1 cl_g2 cl_g3 cl_g4 cl_g5
        go_wp2_with fail
        (with_reducible refine (specSameNotation_y k8 A8 na8 ca8 B8 nb8 cb8 S8 ns8 cs8 P8 np8 cp8 Q8 nq8 cq8 Z k2 A2 na2 ca2 B2 nb2 cb2 S2 ns2 cs2 P2 np2 cp2 Q2 nq2 cq2 Z true (sme_self Z) _ (Rg.out.ext (by with_reducible (repeat (first | exact Ext.refl _ | apply Ext.drewN | apply Ext.drew | apply Ext.alloc | (refine Ext.set ?_ (by first | (simp; done) | (simp; omega) | omega) _) | (refine Ext.trans ?_ (by assumption)))))) (Rx.out.ext (by with_reducible (repeat (first | exact Ext.refl _ | apply Ext.drewN | apply Ext.drew | apply Ext.alloc | (refine Ext.set ?_ (by first | (simp; done) | (simp; omega) | omega) _) | (refine Ext.trans ?_ (by assumption))))))).mono ?_)
        rintro e w30 ⟨rfl, hx⟩
        have hE2 : Hid (Ext w w30) := hE.out.trans (Ext.trans (by with_reducible (repeat (first | exact Ext.refl _ | apply Ext.drewN | apply Ext.drew | apply Ext.alloc | (refine Ext.set ?_ (by first | (simp; done) | (simp; omega) | omega) _) | (refine Ext.trans ?_ (by assumption))))) hx)
        go_wp2
        go_ret
        exact ⟨rfl, Ext.below hE2.out⟩
      · skip
        have hd2 : IntKind.i64.wrap (2 * dn) = dx := by rw [show dx = 2 * dn by have := HBB.out; omega]; exact IntWalk.i64_in _ (by omega)
        have hd1 : (dx == dn) = false := beq_eq_false_iff_ne.2 hde
        have hd3 : (dx != dn) = true := bne_iff_ne.2 hde
        go_wp2
        go_ret
        exact ⟨rfl, Ext.below hE.out⟩
    · skip
      have hq4 : (k2 == 4) = true := beq_iff_eq.2 q4
      have hk4 : (k1 == 4) = false := beq_eq_false_iff_ne.2 kk4
      have hpp : px = 2 * pn := by have h := HPP.out; rw [if_neg (fun h => kk4 h.1), if_pos ⟨q4, kk4⟩] at h; exact h
      have hw : IntKind.i64.wrap (2 * pn) = px := by rw [hpp]; exact IntWalk.i64_in _ (by omega)
      clear q4 kk4 hpp
      obtain ⟨zz_x, cl_x0, cl_x1, cl_x2, cl_x3, cl_x4, cl_x5⟩ := Nx.out
      dsimp only at cl_x0 cl_x1 cl_x2 cl_x3 cl_x4 cl_x5
      obtain ⟨zz_n, cl_n0, cl_n1, cl_n2, cl_n3, cl_n4, cl_n5⟩ := Nn.out
      dsimp only at cl_n0 cl_n1 cl_n2 cl_n3 cl_n4 cl_n5
      go_wp2_with fail
      (with_reducible refine (implNotationBeats_y k2 A2 na2 ca2 B2 nb2 cb2 S2 ns2 cs2 P2 np2 cp2 Q2 nq2 cq2 Z dx 0 _ (Rx.out.ext (by with_reducible (repeat (first | exact Ext.refl _ | apply Ext.drewN | apply Ext.drew | apply Ext.alloc | (refine Ext.set ?_ (by first | (simp; done) | (simp; omega) | omega) _) | (refine Ext.trans ?_ (by assumption)))))) HPx.out (by rw [if_pos HF.out.vx]; exact HDX.out) (if_pos HF.out.vx)).mono ?_)
      rintro e w15 ⟨rfl, hx⟩
      clear zz_x cl_x0 cl_x1 cl_x2 cl_x3 cl_x4 cl_x5 zz_n cl_n0 cl_n1 cl_n2 cl_n3 cl_n4 cl_n5
      have hp : Ext w14 w15 := Ext.trans (by with_reducible (repeat (first | exact Ext.refl _ | apply Ext.drewN | apply Ext.drew | apply Ext.alloc | (refine Ext.set ?_ (by first | (simp; done) | (simp; omega) | omega) _) | (refine Ext.trans ?_ (by assumption))))) hx
      have hE' : Hid (Ext w w15) := hE.out.trans hp
      clear hE
      have hE := hE'
      clear hE'
      have N' : Hid (NBox w15 w1.heap.size ⟨k1, A1, na1, ca1, B1, nb1, cb1, S1, ns1, cs1, P1, np1, cp1, Q1, nq1, cq1⟩) := Nn.out.ext hp
      clear Nn
      have Nn := N'
      clear N'
      have N' : Hid (NBox w15 w2.heap.size ⟨k2, A2, na2, ca2, B2, nb2, cb2, S2, ns2, cs2, P2, np2, cp2, Q2, nq2, cq2⟩) := Nx.out.ext hp
      clear Nx
      have Nx := N'
      clear N'
      have N' : Hid (NBox w15 w10.heap.size ⟨k7, A7, na7, ca7, B7, nb7, cb7, S7, ns7, cs7, P7, np7, cp7, Q7, nq7, cq7⟩) := Ny.out.ext hp
      clear Ny
      have Ny := N'
      clear N'
      have N' : Hid (NBox w15 w11.heap.size ⟨k8, A8, na8, ca8, B8, nb8, cb8, S8, ns8, cs8, P8, np8, cp8, Q8, nq8, cq8⟩) := Ng.out.ext hp
      clear Ng
      have Ng := N'
      clear N'
      have R' : Hid (NtR w15 ⟨k1, A1, na1, ca1, B1, nb1, cb1, S1, ns1, cs1, P1, np1, cp1, Q1, nq1, cq1⟩ D1) := Rn.out.ext hp
      clear Rn
      have Rn := R'
      clear R'
      have R' : Hid (NtR w15 ⟨k2, A2, na2, ca2, B2, nb2, cb2, S2, ns2, cs2, P2, np2, cp2, Q2, nq2, cq2⟩ Z) := Rx.out.ext hp
      clear Rx
      have Rx := R'
      clear R'
      have R' : Hid (NtR w15 ⟨k7, A7, na7, ca7, B7, nb7, cb7, S7, ns7, cs7, P7, np7, cp7, Q7, nq7, cq7⟩ Y) := Ry.out.ext hp
      clear Ry
      have Ry := R'
      clear R'
      have R' : Hid (NtR w15 ⟨k8, A8, na8, ca8, B8, nb8, cb8, S8, ns8, cs8, P8, np8, cp8, Q8, nq8, cq8⟩ Z) := Rg.out.ext hp
      clear Rg
      have Rg := R'
      clear R'
      clear hp hx
      obtain ⟨zz_n, cl_n0, cl_n1, cl_n2, cl_n3, cl_n4, cl_n5⟩ := Nn.out
      dsimp only at cl_n0 cl_n1 cl_n2 cl_n3 cl_n4 cl_n5
      go_wp2_with fail
      (with_reducible refine (implNotationBeats_y k1 A1 na1 ca1 B1 nb1 cb1 S1 ns1 cs1 P1 np1 cp1 Q1 nq1 cq1 D1 dn 0 _ (Rn.out.ext (by with_reducible (repeat (first | exact Ext.refl _ | apply Ext.drewN | apply Ext.drew | apply Ext.alloc | (refine Ext.set ?_ (by first | (simp; done) | (simp; omega) | omega) _) | (refine Ext.trans ?_ (by assumption)))))) HPn.out (by rw [if_pos HF.out.vd]; exact HDN.out) (if_pos HF.out.vd)).mono ?_)
      rintro e w16 ⟨rfl, hx⟩
      clear zz_n cl_n0 cl_n1 cl_n2 cl_n3 cl_n4 cl_n5
      have hp : Ext w15 w16 := Ext.trans (by with_reducible (repeat (first | exact Ext.refl _ | apply Ext.drewN | apply Ext.drew | apply Ext.alloc | (refine Ext.set ?_ (by first | (simp; done) | (simp; omega) | omega) _) | (refine Ext.trans ?_ (by assumption))))) hx
      have hE' : Hid (Ext w w16) := hE.out.trans hp
      clear hE
      have hE := hE'
      clear hE'
      have N' : Hid (NBox w16 w1.heap.size ⟨k1, A1, na1, ca1, B1, nb1, cb1, S1, ns1, cs1, P1, np1, cp1, Q1, nq1, cq1⟩) := Nn.out.ext hp
      clear Nn
      have Nn := N'
      clear N'
      have N' : Hid (NBox w16 w2.heap.size ⟨k2, A2, na2, ca2, B2, nb2, cb2, S2, ns2, cs2, P2, np2, cp2, Q2, nq2, cq2⟩) := Nx.out.ext hp
      clear Nx
      have Nx := N'
      clear N'
      have N' : Hid (NBox w16 w10.heap.size ⟨k7, A7, na7, ca7, B7, nb7, cb7, S7, ns7, cs7, P7, np7, cp7, Q7, nq7, cq7⟩) := Ny.out.ext hp
      clear Ny
      have Ny := N'
      clear N'
      have N' : Hid (NBox w16 w11.heap.size ⟨k8, A8, na8, ca8, B8, nb8, cb8, S8, ns8, cs8, P8, np8, cp8, Q8, nq8, cq8⟩) := Ng.out.ext hp
      clear Ng
      have Ng := N'
      clear N'
      have R' : Hid (NtR w16 ⟨k1, A1, na1, ca1, B1, nb1, cb1, S1, ns1, cs1, P1, np1, cp1, Q1, nq1, cq1⟩ D1) := Rn.out.ext hp
      clear Rn
      have Rn := R'
      clear R'
      have R' : Hid (NtR w16 ⟨k2, A2, na2, ca2, B2, nb2, cb2, S2, ns2, cs2, P2, np2, cp2, Q2, nq2, cq2⟩ Z) := Rx.out.ext hp
      clear Rx
      have Rx := R'
      clear R'
      have R' : Hid (NtR w16 ⟨k7, A7, na7, ca7, B7, nb7, cb7, S7, ns7, cs7, P7, np7, cp7, Q7, nq7, cq7⟩ Y) := Ry.out.ext hp
      clear Ry
      have Ry := R'
      clear R'
      have R' : Hid (NtR w16 ⟨k8, A8, na8, ca8, B8, nb8, cb8, S8, ns8, cs8, P8, np8, cp8, Q8, nq8, cq8⟩ Z) := Rg.out.ext hp
      clear Rg
      have Rg := R'
      clear R'
      clear hp hx
      by_cases hde : dx = dn
      · skip
        subst hde
        obtain ⟨zz_x, cl_x0, cl_x1, cl_x2, cl_x3, cl_x4, cl_x5⟩ := Nx.out
        dsimp only at cl_x0 cl_x1 cl_x2 cl_x3 cl_x4 cl_x5
        obtain ⟨zz_g, cl_g0, cl_g1, cl_g2, cl_g3, cl_g4, cl_g5⟩ := Ng.out
        dsimp only at cl_g0 cl_g1 cl_g2 cl_g3 cl_g4 cl_g5
        go_wp2_with fail
        (with_reducible refine (specSameNotation_y k8 A8 na8 ca8 B8 nb8 cb8 S8 ns8 cs8 P8 np8 cp8 Q8 nq8 cq8 Z k2 A2 na2 ca2 B2 nb2 cb2 S2 ns2 cs2 P2 np2 cp2 Q2 nq2 cq2 Z true (sme_self Z) _ (Rg.out.ext (by with_reducible (repeat (first | exact Ext.refl _ | apply Ext.drewN | apply Ext.drew | apply Ext.alloc | (refine Ext.set ?_ (by first | (simp; done) | (simp; omega) | omega) _) | (refine Ext.trans ?_ (by assumption)))))) (Rx.out.ext (by with_reducible (repeat (first | exact Ext.refl _ | apply Ext.drewN | apply Ext.drew | apply Ext.alloc | (refine Ext.set ?_ (by first | (simp; done) | (simp; omega) | omega) _) | (refine Ext.trans ?_ (by assumption))))))).mono ?_)
        rintro e w30 ⟨rfl, hx⟩
        have hE2 : Hid (Ext w w30) := hE.out.trans (Ext.trans (by with_reducible (repeat (first | exact Ext.refl _ | apply Ext.drewN | apply Ext.drew | apply Ext.alloc | (refine Ext.set ?_ (by first | (simp; done) | (simp; omega) | omega) _) | (refine Ext.trans ?_ (by assumption))))) hx)
        go_wp2
        go_ret
        exact ⟨rfl, Ext.below hE2.out⟩
      · skip
        have hd2 : IntKind.i64.wrap (2 * dn) = dx := by rw [show dx = 2 * dn by have := HBB.out; omega]; exact IntWalk.i64_in _ (by omega)
        have hd1 : (dx == dn) = false := beq_eq_false_iff_ne.2 hde
        have hd3 : (dx != dn) = true := bne_iff_ne.2 hde
        go_wp2
        go_ret
        exact ⟨rfl, Ext.below hE.out⟩
  · skip
    by_cases kk4 : k1 = 4
    · skip
      have hq4 : (k2 == 4) = false := beq_eq_false_iff_ne.2 q4
      have hk4 : (k1 == 4) = true := beq_iff_eq.2 kk4
      have hpp : 2 * px = pn := by have h := HPP.out; rw [if_pos ⟨kk4, q4⟩, if_neg (fun h => q4 h.1)] at h; exact h
      have hw : IntKind.i64.wrap (2 * px) = pn := by rw [← hpp]; exact IntWalk.i64_in _ (by omega)
      clear q4 kk4 hpp
      obtain ⟨zz_x, cl_x0, cl_x1, cl_x2, cl_x3, cl_x4, cl_x5⟩ := Nx.out
      dsimp only at cl_x0 cl_x1 cl_x2 cl_x3 cl_x4 cl_x5
      obtain ⟨zz_n, cl_n0, cl_n1, cl_n2, cl_n3, cl_n4, cl_n5⟩ := Nn.out
      dsimp only at cl_n0 cl_n1 cl_n2 cl_n3 cl_n4 cl_n5
      go_wp2_with fail
      (with_reducible refine (implNotationBeats_y k2 A2 na2 ca2 B2 nb2 cb2 S2 ns2 cs2 P2 np2 cp2 Q2 nq2 cq2 Z dx 0 _ (Rx.out.ext (by with_reducible (repeat (first | exact Ext.refl _ | apply Ext.drewN | apply Ext.drew | apply Ext.alloc | (refine Ext.set ?_ (by first | (simp; done) | (simp; omega) | omega) _) | (refine Ext.trans ?_ (by assumption)))))) HPx.out (by rw [if_pos HF.out.vx]; exact HDX.out) (if_pos HF.out.vx)).mono ?_)
      rintro e w15 ⟨rfl, hx⟩
      clear zz_x cl_x0 cl_x1 cl_x2 cl_x3 cl_x4 cl_x5 zz_n cl_n0 cl_n1 cl_n2 cl_n3 cl_n4 cl_n5
      have hp : Ext w14 w15 := Ext.trans (by with_reducible (repeat (first | exact Ext.refl _ | apply Ext.drewN | apply Ext.drew | apply Ext.alloc | (refine Ext.set ?_ (by first | (simp; done) | (simp; omega) | omega) _) | (refine Ext.trans ?_ (by assumption))))) hx
      have hE' : Hid (Ext w w15) := hE.out.trans hp
      clear hE
      have hE := hE'
      clear hE'
      have N' : Hid (NBox w15 w1.heap.size ⟨k1, A1, na1, ca1, B1, nb1, cb1, S1, ns1, cs1, P1, np1, cp1, Q1, nq1, cq1⟩) := Nn.out.ext hp
      clear Nn
      have Nn := N'
      clear N'
      have N' : Hid (NBox w15 w2.heap.size ⟨k2, A2, na2, ca2, B2, nb2, cb2, S2, ns2, cs2, P2, np2, cp2, Q2, nq2, cq2⟩) := Nx.out.ext hp
      clear Nx
      have Nx := N'
      clear N'
      have N' : Hid (NBox w15 w10.heap.size ⟨k7, A7, na7, ca7, B7, nb7, cb7, S7, ns7, cs7, P7, np7, cp7, Q7, nq7, cq7⟩) := Ny.out.ext hp
      clear Ny
      have Ny := N'
      clear N'
      have N' : Hid (NBox w15 w11.heap.size ⟨k8, A8, na8, ca8, B8, nb8, cb8, S8, ns8, cs8, P8, np8, cp8, Q8, nq8, cq8⟩) := Ng.out.ext hp
      clear Ng
      have Ng := N'
      clear N'
      have R' : Hid (NtR w15 ⟨k1, A1, na1, ca1, B1, nb1, cb1, S1, ns1, cs1, P1, np1, cp1, Q1, nq1, cq1⟩ D1) := Rn.out.ext hp
      clear Rn
      have Rn := R'
      clear R'
      have R' : Hid (NtR w15 ⟨k2, A2, na2, ca2, B2, nb2, cb2, S2, ns2, cs2, P2, np2, cp2, Q2, nq2, cq2⟩ Z) := Rx.out.ext hp
      clear Rx
      have Rx := R'
      clear R'
      have R' : Hid (NtR w15 ⟨k7, A7, na7, ca7, B7, nb7, cb7, S7, ns7, cs7, P7, np7, cp7, Q7, nq7, cq7⟩ Y) := Ry.out.ext hp
      clear Ry
      have Ry := R'
      clear R'
      have R' : Hid (NtR w15 ⟨k8, A8, na8, ca8, B8, nb8, cb8, S8, ns8, cs8, P8, np8, cp8, Q8, nq8, cq8⟩ Z) := Rg.out.ext hp
      clear Rg
      have Rg := R'
      clear R'
      clear hp hx
      obtain ⟨zz_n, cl_n0, cl_n1, cl_n2, cl_n3, cl_n4, cl_n5⟩ := Nn.out
      dsimp only at cl_n0 cl_n1 cl_n2 cl_n3 cl_n4 cl_n5
      go_wp2_with fail
      (with_reducible refine (implNotationBeats_y k1 A1 na1 ca1 B1 nb1 cb1 S1 ns1 cs1 P1 np1 cp1 Q1 nq1 cq1 D1 dn 0 _ (Rn.out.ext (by with_reducible (repeat (first | exact Ext.refl _ | apply Ext.drewN | apply Ext.drew | apply Ext.alloc | (refine Ext.set ?_ (by first | (simp; done) | (simp; omega) | omega) _) | (refine Ext.trans ?_ (by assumption)))))) HPn.out (by rw [if_pos HF.out.vd]; exact HDN.out) (if_pos HF.out.vd)).mono ?_)
      rintro e w16 ⟨rfl, hx⟩
      clear zz_n cl_n0 cl_n1 cl_n2 cl_n3 cl_n4 cl_n5
      have hp : Ext w15 w16 := Ext.trans (by with_reducible (repeat (first | exact Ext.refl _ | apply Ext.drewN | apply Ext.drew | apply Ext.alloc | (refine Ext.set ?_ (by first | (simp; done) | (simp; omega) | omega) _) | (refine Ext.trans ?_ (by assumption))))) hx
      have hE' : Hid (Ext w w16) := hE.out.trans hp
      clear hE
      have hE := hE'
      clear hE'
      have N' : Hid (NBox w16 w1.heap.size ⟨k1, A1, na1, ca1, B1, nb1, cb1, S1, ns1, cs1, P1, np1, cp1, Q1, nq1, cq1⟩) := Nn.out.ext hp
      clear Nn
      have Nn := N'
      clear N'
      have N' : Hid (NBox w16 w2.heap.size ⟨k2, A2, na2, ca2, B2, nb2, cb2, S2, ns2, cs2, P2, np2, cp2, Q2, nq2, cq2⟩) := Nx.out.ext hp
      clear Nx
      have Nx := N'
      clear N'
      have N' : Hid (NBox w16 w10.heap.size ⟨k7, A7, na7, ca7, B7, nb7, cb7, S7, ns7, cs7, P7, np7, cp7, Q7, nq7, cq7⟩) := Ny.out.ext hp
      clear Ny
      have Ny := N'
      clear N'
      have N' : Hid (NBox w16 w11.heap.size ⟨k8, A8, na8, ca8, B8, nb8, cb8, S8, ns8, cs8, P8, np8, cp8, Q8, nq8, cq8⟩) := Ng.out.ext hp
      clear Ng
      have Ng := N'
      clear N'
      have R' : Hid (NtR w16 ⟨k1, A1, na1, ca1, B1, nb1, cb1, S1, ns1, cs1, P1, np1, cp1, Q1, nq1, cq1⟩ D1) := Rn.out.ext hp
      clear Rn
      have Rn := R'
      clear R'
      have R' : Hid (NtR w16 ⟨k2, A2, na2, ca2, B2, nb2, cb2, S2, ns2, cs2, P2, np2, cp2, Q2, nq2, cq2⟩ Z) := Rx.out.ext hp
      clear Rx
      have Rx := R'
      clear R'
      have R' : Hid (NtR w16 ⟨k7, A7, na7, ca7, B7, nb7, cb7, S7, ns7, cs7, P7, np7, cp7, Q7, nq7, cq7⟩ Y) := Ry.out.ext hp
      clear Ry
      have Ry := R'
      clear R'
      have R' : Hid (NtR w16 ⟨k8, A8, na8, ca8, B8, nb8, cb8, S8, ns8, cs8, P8, np8, cp8, Q8, nq8, cq8⟩ Z) := Rg.out.ext hp
      clear Rg
      have Rg := R'
      clear R'
      clear hp hx
      by_cases hde : dx = dn
      · skip
        subst hde
        obtain ⟨zz_x, cl_x0, cl_x1, cl_x2, cl_x3, cl_x4, cl_x5⟩ := Nx.out
        dsimp only at cl_x0 cl_x1 cl_x2 cl_x3 cl_x4 cl_x5
        obtain ⟨zz_g, cl_g0, cl_g1, cl_g2, cl_g3, cl_g4, cl_g5⟩ := Ng.out
        dsimp only at cl_g0 cl_g1 cl_g2 cl_g3 cl_g4 cl_g5
        go_wp2_with fail
        (with_reducible refine (specSameNotation_y k8 A8 na8 ca8 B8 nb8 cb8 S8 ns8 cs8 P8 np8 cp8 Q8 nq8 cq8 Z k2 A2 na2 ca2 B2 nb2 cb2 S2 ns2 cs2 P2 np2 cp2 Q2 nq2 cq2 Z true (sme_self Z) _ (Rg.out.ext (by with_reducible (repeat (first | exact Ext.refl _ | apply Ext.drewN | apply Ext.drew | apply Ext.alloc | (refine Ext.set ?_ (by first | (simp; done) | (simp; omega) | omega) _) | (refine Ext.trans ?_ (by assumption)))))) (Rx.out.ext (by with_reducible (repeat (first | exact Ext.refl _ | apply Ext.drewN | apply Ext.drew | apply Ext.alloc | (refine Ext.set ?_ (by first | (simp; done) | (simp; omega) | omega) _) | (refine Ext.trans ?_ (by assumption))))))).mono ?_)
        rintro e w30 ⟨rfl, hx⟩
        have hE2 : Hid (Ext w w30) := hE.out.trans (Ext.trans (by with_reducible (repeat (first | exact Ext.refl _ | apply Ext.drewN | apply Ext.drew | apply Ext.alloc | (refine Ext.set ?_ (by first | (simp; done) | (simp; omega) | omega) _) | (refine Ext.trans ?_ (by assumption))))) hx)
        go_wp2
        go_ret
        exact ⟨rfl, Ext.below hE2.out⟩
      · skip
        have hd2 : IntKind.i64.wrap (2 * dn) = dx := by rw [show dx = 2 * dn by have := HBB.out; omega]; exact IntWalk.i64_in _ (by omega)
        have hd1 : (dx == dn) = false := beq_eq_false_iff_ne.2 hde
        have hd3 : (dx != dn) = true := bne_iff_ne.2 hde
        go_wp2
        go_ret
        exact ⟨rfl, Ext.below hE.out⟩
    · skip
      have hq4 : (k2 == 4) = false := beq_eq_false_iff_ne.2 q4
      have hk4 : (k1 == 4) = false := beq_eq_false_iff_ne.2 kk4
      obtain rfl : px = pn := by have h := HPP.out; rw [if_neg (fun h => kk4 h.1), if_neg (fun h => q4 h.1)] at h; exact h
      clear q4 kk4
      obtain ⟨zz_x, cl_x0, cl_x1, cl_x2, cl_x3, cl_x4, cl_x5⟩ := Nx.out
      dsimp only at cl_x0 cl_x1 cl_x2 cl_x3 cl_x4 cl_x5
      obtain ⟨zz_n, cl_n0, cl_n1, cl_n2, cl_n3, cl_n4, cl_n5⟩ := Nn.out
      dsimp only at cl_n0 cl_n1 cl_n2 cl_n3 cl_n4 cl_n5
      go_wp2_with fail
      (with_reducible refine (implNotationBeats_y k2 A2 na2 ca2 B2 nb2 cb2 S2 ns2 cs2 P2 np2 cp2 Q2 nq2 cq2 Z dx 0 _ (Rx.out.ext (by with_reducible (repeat (first | exact Ext.refl _ | apply Ext.drewN | apply Ext.drew | apply Ext.alloc | (refine Ext.set ?_ (by first | (simp; done) | (simp; omega) | omega) _) | (refine Ext.trans ?_ (by assumption)))))) HPx.out (by rw [if_pos HF.out.vx]; exact HDX.out) (if_pos HF.out.vx)).mono ?_)
      rintro e w15 ⟨rfl, hx⟩
      clear zz_x cl_x0 cl_x1 cl_x2 cl_x3 cl_x4 cl_x5 zz_n cl_n0 cl_n1 cl_n2 cl_n3 cl_n4 cl_n5
      have hp : Ext w14 w15 := Ext.trans (by with_reducible (repeat (first | exact Ext.refl _ | apply Ext.drewN | apply Ext.drew | apply Ext.alloc | (refine Ext.set ?_ (by first | (simp; done) | (simp; omega) | omega) _) | (refine Ext.trans ?_ (by assumption))))) hx
      have hE' : Hid (Ext w w15) := hE.out.trans hp
      clear hE
      have hE := hE'
      clear hE'
      have N' : Hid (NBox w15 w1.heap.size ⟨k1, A1, na1, ca1, B1, nb1, cb1, S1, ns1, cs1, P1, np1, cp1, Q1, nq1, cq1⟩) := Nn.out.ext hp
      clear Nn
      have Nn := N'
      clear N'
      have N' : Hid (NBox w15 w2.heap.size ⟨k2, A2, na2, ca2, B2, nb2, cb2, S2, ns2, cs2, P2, np2, cp2, Q2, nq2, cq2⟩) := Nx.out.ext hp
      clear Nx
      have Nx := N'
      clear N'
      have N' : Hid (NBox w15 w10.heap.size ⟨k7, A7, na7, ca7, B7, nb7, cb7, S7, ns7, cs7, P7, np7, cp7, Q7, nq7, cq7⟩) := Ny.out.ext hp
      clear Ny
      have Ny := N'
      clear N'
      have N' : Hid (NBox w15 w11.heap.size ⟨k8, A8, na8, ca8, B8, nb8, cb8, S8, ns8, cs8, P8, np8, cp8, Q8, nq8, cq8⟩) := Ng.out.ext hp
      clear Ng
      have Ng := N'
      clear N'
      have R' : Hid (NtR w15 ⟨k1, A1, na1, ca1, B1, nb1, cb1, S1, ns1, cs1, P1, np1, cp1, Q1, nq1, cq1⟩ D1) := Rn.out.ext hp
      clear Rn
      have Rn := R'
      clear R'
      have R' : Hid (NtR w15 ⟨k2, A2, na2, ca2, B2, nb2, cb2, S2, ns2, cs2, P2, np2, cp2, Q2, nq2, cq2⟩ Z) := Rx.out.ext hp
      clear Rx
      have Rx := R'
      clear R'
      have R' : Hid (NtR w15 ⟨k7, A7, na7, ca7, B7, nb7, cb7, S7, ns7, cs7, P7, np7, cp7, Q7, nq7, cq7⟩ Y) := Ry.out.ext hp
      clear Ry
      have Ry := R'
      clear R'
      have R' : Hid (NtR w15 ⟨k8, A8, na8, ca8, B8, nb8, cb8, S8, ns8, cs8, P8, np8, cp8, Q8, nq8, cq8⟩ Z) := Rg.out.ext hp
      clear Rg
      have Rg := R'
      clear R'
      clear hp hx
      obtain ⟨zz_n, cl_n0, cl_n1, cl_n2, cl_n3, cl_n4, cl_n5⟩ := Nn.out
      dsimp only at cl_n0 cl_n1 cl_n2 cl_n3 cl_n4 cl_n5
      go_wp2_with fail
      (with_reducible refine (implNotationBeats_y k1 A1 na1 ca1 B1 nb1 cb1 S1 ns1 cs1 P1 np1 cp1 Q1 nq1 cq1 D1 dn 0 _ (Rn.out.ext (by with_reducible (repeat (first | exact Ext.refl _ | apply Ext.drewN | apply Ext.drew | apply Ext.alloc | (refine Ext.set ?_ (by first | (simp; done) | (simp; omega) | omega) _) | (refine Ext.trans ?_ (by assumption)))))) HPn.out (by rw [if_pos HF.out.vd]; exact HDN.out) (if_pos HF.out.vd)).mono ?_)
      rintro e w16 ⟨rfl, hx⟩
      clear zz_n cl_n0 cl_n1 cl_n2 cl_n3 cl_n4 cl_n5
      have hp : Ext w15 w16 := Ext.trans (by with_reducible (repeat (first | exact Ext.refl _ | apply Ext.drewN | apply Ext.drew | apply Ext.alloc | (refine Ext.set ?_ (by first | (simp; done) | (simp; omega) | omega) _) | (refine Ext.trans ?_ (by assumption))))) hx
      have hE' : Hid (Ext w w16) := hE.out.trans hp
      clear hE
      have hE := hE'
      clear hE'
      have N' : Hid (NBox w16 w1.heap.size ⟨k1, A1, na1, ca1, B1, nb1, cb1, S1, ns1, cs1, P1, np1, cp1, Q1, nq1, cq1⟩) := Nn.out.ext hp
      clear Nn
      have Nn := N'
      clear N'
      have N' : Hid (NBox w16 w2.heap.size ⟨k2, A2, na2, ca2, B2, nb2, cb2, S2, ns2, cs2, P2, np2, cp2, Q2, nq2, cq2⟩) := Nx.out.ext hp
      clear Nx
      have Nx := N'
      clear N'
      have N' : Hid (NBox w16 w10.heap.size ⟨k7, A7, na7, ca7, B7, nb7, cb7, S7, ns7, cs7, P7, np7, cp7, Q7, nq7, cq7⟩) := Ny.out.ext hp
      clear Ny
      have Ny := N'
      clear N'
      have N' : Hid (NBox w16 w11.heap.size ⟨k8, A8, na8, ca8, B8, nb8, cb8, S8, ns8, cs8, P8, np8, cp8, Q8, nq8, cq8⟩) := Ng.out.ext hp
      clear Ng
      have Ng := N'
      clear N'
      have R' : Hid (NtR w16 ⟨k1, A1, na1, ca1, B1, nb1, cb1, S1, ns1, cs1, P1, np1, cp1, Q1, nq1, cq1⟩ D1) := Rn.out.ext hp
      clear Rn
      have Rn := R'
      clear R'
      have R' : Hid (NtR w16 ⟨k2, A2, na2, ca2, B2, nb2, cb2, S2, ns2, cs2, P2, np2, cp2, Q2, nq2, cq2⟩ Z) := Rx.out.ext hp
      clear Rx
      have Rx := R'
      clear R'
      have R' : Hid (NtR w16 ⟨k7, A7, na7, ca7, B7, nb7, cb7, S7, ns7, cs7, P7, np7, cp7, Q7, nq7, cq7⟩ Y) := Ry.out.ext hp
      clear Ry
      have Ry := R'
      clear R'
      have R' : Hid (NtR w16 ⟨k8, A8, na8, ca8, B8, nb8, cb8, S8, ns8, cs8, P8, np8, cp8, Q8, nq8, cq8⟩ Z) := Rg.out.ext hp
      clear Rg
      have Rg := R'
      clear R'
      clear hp hx
      by_cases hde : dx = dn
      · skip
        subst hde
        obtain ⟨zz_x, cl_x0, cl_x1, cl_x2, cl_x3, cl_x4, cl_x5⟩ := Nx.out
        dsimp only at cl_x0 cl_x1 cl_x2 cl_x3 cl_x4 cl_x5
        obtain ⟨zz_g, cl_g0, cl_g1, cl_g2, cl_g3, cl_g4, cl_g5⟩ := Ng.out
        dsimp only at cl_g0 cl_g1 cl_g2 cl_g3 cl_g4 cl_g5
        go_wp2_with fail
        (with_reducible refine (specSameNotation_y k8 A8 na8 ca8 B8 nb8 cb8 S8 ns8 cs8 P8 np8 cp8 Q8 nq8 cq8 Z k2 A2 na2 ca2 B2 nb2 cb2 S2 ns2 cs2 P2 np2 cp2 Q2 nq2 cq2 Z true (sme_self Z) _ (Rg.out.ext (by with_reducible (repeat (first | exact Ext.refl _ | apply Ext.drewN | apply Ext.drew | apply Ext.alloc | (refine Ext.set ?_ (by first | (simp; done) | (simp; omega) | omega) _) | (refine Ext.trans ?_ (by assumption)))))) (Rx.out.ext (by with_reducible (repeat (first | exact Ext.refl _ | apply Ext.drewN | apply Ext.drew | apply Ext.alloc | (refine Ext.set ?_ (by first | (simp; done) | (simp; omega) | omega) _) | (refine Ext.trans ?_ (by assumption))))))).mono ?_)
        rintro e w30 ⟨rfl, hx⟩
        have hE2 : Hid (Ext w w30) := hE.out.trans (Ext.trans (by with_reducible (repeat (first | exact Ext.refl _ | apply Ext.drewN | apply Ext.drew | apply Ext.alloc | (refine Ext.set ?_ (by first | (simp; done) | (simp; omega) | omega) _) | (refine Ext.trans ?_ (by assumption))))) hx)
        go_wp2
        go_ret
        exact ⟨rfl, Ext.below hE2.out⟩
      · skip
        have hd2 : IntKind.i64.wrap (2 * dn) = dx := by rw [show dx = 2 * dn by have := HBB.out; omega]; exact IntWalk.i64_in _ (by omega)
        have hd1 : (dx == dn) = false := beq_eq_false_iff_ne.2 hde
        have hd3 : (dx != dn) = true := bne_iff_ne.2 hde
        go_wp2
        go_ret
        exact ⟨rfl, Ext.below hE.out⟩
end Go.Proofs.YtbihbhdaenhdoaaGreat.fnConversions

namespace Go.Proofs.YtbihbhdaenhdoaaGreat
open Go.ChangeShapes Go.WideShapes Go.ChangeAt Go.RowKit Go.Joins
namespace fnConversions
set_option linter.unusedVariables false
set_option maxRecDepth 100000 in
theorem lifted (os : Os) (started : os.Started) (H : Type) (enc : TypeId × Value → H) :
    ReturnsInHanded {} Tryz.checked os 3 .any (Rows.fnConversionsSpec.pre6 enc Tryz.prog Tryz.f3 Rows.fnConversionsRow.domain false) (Rows.fnConversionsSpec.post enc Tryz.prog Tryz.f3 false true false false) := by
  refine returnsInHanded_of_change (C := Tryz.checked) own started (by kernel_rfl) Tryz.func3
    (ChangeSpec.witness6 (enc := enc) (C := Tryz.checked) false ⟨#[], #[.slice none 0 0], []⟩ 8 (by kernel_rfl) (by kernel_rfl) (by kernel_rfl) (by kernel_rfl)) ?_
  intro W base args ds gs before hval0 hW hcnd _
  have hval : ∀ (j : Nat) t v, Tryz.f3.params[j]? = some t → args[j]? = some v → Value.okWide Tryz.prog W .any base t v := hval0
  have hW' := hW
  obtain ⟨p, q, hA0, hV, rfl, hfz, hnd⟩ := hW
  have hA : DataW.TrodAll enc Tryz.prog W 0 (fun _ => true) true Tryz.f3.params.toList args.toList ds p := hA0
  rw [Tryz.params3] at hA hval
  obtain ⟨v0, vs0, d0, ds0, p0, q0, hargs, rfl, rfl, h0, r0⟩ := trodAll_cons hA
  obtain ⟨rfl, rfl, rfl⟩ := trodAll_nil r0
  obtain rfl : args = #[v0] := by cases args; simp_all
  obtain ⟨rfl, rfl⟩ := trodVars_none hV
  obtain ⟨A0, n0, c0, rfl⟩ := okWide_slice Tryz.underlying22 (hval 0 22 v0 rfl rfl)
  have I0 := argByts Tryz.underlying22 Tryz.underlying5 (by kernel_rfl) h0
  obtain ⟨xs0, I0⟩ := I0
  clear hA0 hval0 hval
  refine (walk A0 n0 c0 xs0 W I0).mono fun e W' ⟨he, hg⟩ => ?_
  subst he
  exact ⟨_, rfl, law_post laidOut (by intro t ht; rw [Tryz.params3] at ht; revert t; exact of_decide_eq_true (by kernel_rfl)) (by kernel_rfl) Tryz.underlying4 rfl rfl (by simpa using hW') hg⟩

theorem over : Rows.fnConversionsRow.holds Tryz.pinned (OpenSpec.ofChange Rows.fnConversionsSpec) :=
  OpenClaim.holds_of_wide 3 Tryz.f3 rfl rfl rfl rfl rfl rfl rfl ⟨rfl, rfl, rfl, rfl, rfl⟩ rfl rfl rfl rfl rfl (by kernel_rfl) Tryz.func3 (by kernel_rfl)
    (of_decide_eq_true (by kernel_rfl)) (by unfold Func.isWrapper; rw [if_neg (of_decide_eq_false (by kernel_rfl))]; exact ⟨rfl, rfl⟩)
    (fun os started H enc _ => lifted os started H enc)

theorem proved : Rows.FnConversionsSaid :=
  over
#print axioms proved
end fnConversions
end Go.Proofs.YtbihbhdaenhdoaaGreat
