/- Validity of notations: the plain word, and contracts of ValidNotation and l07Ok. No condition but the stated bounds. (tools/gvnt.py) -/
import Derived.Test.YtbihbhdaenhdoaaGreatEbt
import Derived.Test.YtbihbhdaenhdoaaGreatNrs
import Derived.Test.YtbihbhdaenhdoaaGreatSng
import Derived.Test.YtbihbhdaenhdoaaGreatSom
import Derived.Test.YtbihbhdaenhdoaaGreatPbo
import Derived.Test.YtbihbhdaenhdoaaGreatCla
namespace Go.Proofs.YtbihbhdaenhdoaaGreat
set_option linter.unusedVariables false
set_option linter.unusedSimpArgs false
open Go.ChangeShapes Go.WideShapes Go.ChangeAt Go.RowKit Go.Joins Go.Deep

/-- A notation is valid. -/
def vnt (D : ND) : Bool := ebt D.k D.p.length D.m.length (D.s.length / 2) (D.a.length + D.b.length) && (if D.k = 1 then vpat D.p else if D.k = 2 then vmul D.m else if D.k = 3 then vsyn D.s else if D.k = 4 then vpas D.a D.b else false)
theorem vpat_len {xs : List Int} (h : vpat xs = true) : 1 ≤ xs.length ∧ xs.length ≤ 12 := by
  unfold vpat at h
  rw [Bool.and_eq_true, thr_iff] at h
  exact ⟨h.1.2.1, h.1.2.2⟩
theorem vmul_len {L : List (List Int)} (h : vmul L = true) : 1 ≤ L.length ∧ L.length ≤ 12 := by
  unfold vmul at h
  rw [Bool.and_eq_true] at h
  have := stks_iff h.1
  exact ⟨this.1, this.2.1⟩
theorem vsyn_len {ts : List (Int × Bool)} (h : vsyn ts = true) : 1 ≤ ts.length / 2 ∧ ts.length / 2 ≤ 6 := by
  unfold vsyn at h
  rw [Bool.and_eq_true] at h
  have := h.1
  unfold slis at this
  rw [Bool.and_eq_true, btw_iff] at this
  omega
theorem vpas_len {ts us : List (Int × Bool)} (h : vpas ts us = true) : 1 ≤ ts.length ∧ ts.length ≤ 8 ∧ us.length = ts.length := by
  unfold vpas at h
  rw [Bool.and_eq_true] at h
  have := fpas_parts h.1
  exact ⟨this.1, this.2.1, this.2.2.1⟩
theorem isEmptyBut_is (k : Int) (A : Option Addr) (na ca : Nat) (B : Option Addr) (nb cb : Nat) (S : Option Addr) (ns cs : Nat) (P : Option Addr) (np cp : Nat) (Q : Option Addr) (nq cq : Nat) (v : Bool) (hv : ebt k na nb ns (np + nq) = v) (w : World) (hp : np ≤ 1048576) (hq : nq ≤ 1048576) :
    Calls Tryz.prog 51 #[.agg #[.int .i64 k, .slice A na ca, .slice B nb cb, .slice S ns cs, .slice P np cp, .slice Q nq cq]] w fun e w' => e = .returned (.bool v) ∧ Ext w w' := by
  subst hv
  exact isEmptyBut_any k A na ca B nb cb S ns cs P np cp Q nq cq w hp hq
theorem ValidSync_iz (A : Option Addr) (n c : Nat) (ts : List (Int × Bool)) (v : Bool) (hv : vsyn ts = v) (w : World) (hI : Syn w A n ts) :
    Calls Tryz.prog 54 #[.slice A n c] w fun e w' => e = .returned (.bool v) ∧ Ext w w' := by
  subst hv
  exact ValidSync_any A n c ts w hI
theorem ValidPassing_iz (A B : Option Addr) (n c m d : Nat) (ts us : List (Int × Bool)) (v : Bool) (hv : vpas ts us = v) (w : World) (hI : Thr w A n ts) (hJ : Thr w B m us) :
    Calls Tryz.prog 55 #[.agg #[.slice A n c, .slice B m d]] w fun e w' => e = .returned (.bool v) ∧ Ext w w' := by
  subst hv
  exact ValidPassing_any A B n c m d ts us w hI hJ
set_option maxHeartbeats 8000000 in
theorem ValidNotation_any (V : NV) (D : ND) (w : World) (hI : NtR w V D) (hS : V.np ≤ 1048576 ∧ V.nq ≤ 1048576) :
    Calls Tryz.prog 16 #[V.val] w fun e w' => e = .returned (.bool (vnt D)) ∧ Ext w w' := by
  obtain ⟨k, A, na, ca, B, nb, cb, S, ns, cs, P, np, cp, Q, nq, cq⟩ := V
  obtain ⟨kk, dp, dm, ds, da, db⟩ := D
  obtain ⟨hk, hp, hm, hs, ha, hb⟩ := hI
  obtain ⟨hnp, hnq⟩ := hS
  unfold NV.val
  dsimp only at *
  subst hk
  obtain ⟨r, hr⟩ : ∃ r, vnt ⟨k, dp, dm, ds, da, db⟩ = r := ⟨_, rfl⟩
  have HR : Hid ((ebt k na nb ns (np + nq) && (if k = 1 then vpat dp else if k = 2 then vmul dm else if k = 3 then vsyn ds else if k = 4 then vpas da db else false)) = r) := by
    show _ = _
    rw [← hr]
    unfold vnt
    dsimp only
    rw [hp.len, hm.len, ha.len, hb.len, show ds.length / 2 = ns by have := hs.len; omega]
  rw [hr]
  clear hr
  have HB : Hid (w.heap.size < (w.alloc (.cells #[.int .i64 k, .slice A na ca, .slice B nb cb, .slice S ns cs, .slice P np cp, .slice Q nq cq] 33)).heap.size) := by show _ < _; simp
  cases he : ebt k na nb ns (np + nq)
  · have HF : Hid (r = false) := by show _ = _; rw [← HR.out, he]; rfl
    go_enter Tryz.func16, Tryz.ntmps16
    go_wp2_with fail
    (with_reducible refine (isEmptyBut_is k A na ca B nb cb S ns cs P np cp Q nq cq _ he _ hnp hnq).mono ?_)
    rintro e w1 ⟨rfl, hx⟩
    have hz1 := hx.size
    have q1 : w.heap.size < w1.heap.size := Nat.lt_of_lt_of_le HB.out hz1
    have hE : Ext w w1 := Ext.trans (by with_reducible (repeat (first | exact Ext.refl _ | apply Ext.drewN | apply Ext.drew | apply Ext.alloc | (refine Ext.set ?_ (by first | (simp; done) | (simp; omega) | omega) _) | (refine Ext.trans ?_ (by assumption))))) hx
    have c0 : w1.cell? ⟨w.heap.size, 0, none⟩ = some (.int .i64 k) := hx.cell HB.out (by go_simp)
    have c1 : w1.cell? ⟨w.heap.size, 1, none⟩ = some (.slice A na ca) := hx.cell HB.out (by go_simp)
    have c2 : w1.cell? ⟨w.heap.size, 2, none⟩ = some (.slice B nb cb) := hx.cell HB.out (by go_simp)
    have c3 : w1.cell? ⟨w.heap.size, 3, none⟩ = some (.slice S ns cs) := hx.cell HB.out (by go_simp)
    have c4 : w1.cell? ⟨w.heap.size, 4, none⟩ = some (.slice P np cp) := hx.cell HB.out (by go_simp)
    have c5 : w1.cell? ⟨w.heap.size, 5, none⟩ = some (.slice Q nq cq) := hx.cell HB.out (by go_simp)
    clear hx hz1 HB
    go_wp2
    go_ret
    exact ⟨ret_bool HF.out.symm, (by with_reducible (repeat (first | exact Ext.refl _ | apply Ext.drewN | apply Ext.drew | apply Ext.alloc | (refine Ext.set ?_ (by first | (simp; done) | (simp; omega) | omega) _) | (refine Ext.trans ?_ (by assumption)))))⟩
  · rw [he, Bool.true_and] at HR
    by_cases k1 : k = 1
    · have HF : Hid (vpat dp = r) := by show _ = _; rw [← HR.out, if_pos k1]
      subst k1
      clear HR
      go_enter Tryz.func16, Tryz.ntmps16
      go_wp2_with fail
      (with_reducible refine (isEmptyBut_is 1 A na ca B nb cb S ns cs P np cp Q nq cq _ he _ hnp hnq).mono ?_)
      rintro e w1 ⟨rfl, hx⟩
      have hz1 := hx.size
      have q1 : w.heap.size < w1.heap.size := Nat.lt_of_lt_of_le HB.out hz1
      have hE : Ext w w1 := Ext.trans (by with_reducible (repeat (first | exact Ext.refl _ | apply Ext.drewN | apply Ext.drew | apply Ext.alloc | (refine Ext.set ?_ (by first | (simp; done) | (simp; omega) | omega) _) | (refine Ext.trans ?_ (by assumption))))) hx
      have c0 : w1.cell? ⟨w.heap.size, 0, none⟩ = some (.int .i64 1) := hx.cell HB.out (by go_simp)
      have c1 : w1.cell? ⟨w.heap.size, 1, none⟩ = some (.slice A na ca) := hx.cell HB.out (by go_simp)
      have c2 : w1.cell? ⟨w.heap.size, 2, none⟩ = some (.slice B nb cb) := hx.cell HB.out (by go_simp)
      have c3 : w1.cell? ⟨w.heap.size, 3, none⟩ = some (.slice S ns cs) := hx.cell HB.out (by go_simp)
      have c4 : w1.cell? ⟨w.heap.size, 4, none⟩ = some (.slice P np cp) := hx.cell HB.out (by go_simp)
      have c5 : w1.cell? ⟨w.heap.size, 5, none⟩ = some (.slice Q nq cq) := hx.cell HB.out (by go_simp)
      clear hx hz1 HB
      go_wp2_with fail
      (with_reducible refine (ValidPattern_is A na ca dp _ HF.out _ (hp.ext hE)).mono ?_)
      rintro e w2 ⟨rfl, hx2⟩
      have hE2 := hE.trans hx2
      go_wp2
      go_ret
      exact ⟨rfl, hE2⟩
    by_cases k2 : k = 2
    · have HF : Hid (vmul dm = r) := by show _ = _; rw [← HR.out, if_neg k1, if_pos k2]
      subst k2
      clear HR
      go_enter Tryz.func16, Tryz.ntmps16
      go_wp2_with fail
      (with_reducible refine (isEmptyBut_is 2 A na ca B nb cb S ns cs P np cp Q nq cq _ he _ hnp hnq).mono ?_)
      rintro e w1 ⟨rfl, hx⟩
      have hz1 := hx.size
      have q1 : w.heap.size < w1.heap.size := Nat.lt_of_lt_of_le HB.out hz1
      have hE : Ext w w1 := Ext.trans (by with_reducible (repeat (first | exact Ext.refl _ | apply Ext.drewN | apply Ext.drew | apply Ext.alloc | (refine Ext.set ?_ (by first | (simp; done) | (simp; omega) | omega) _) | (refine Ext.trans ?_ (by assumption))))) hx
      have c0 : w1.cell? ⟨w.heap.size, 0, none⟩ = some (.int .i64 2) := hx.cell HB.out (by go_simp)
      have c1 : w1.cell? ⟨w.heap.size, 1, none⟩ = some (.slice A na ca) := hx.cell HB.out (by go_simp)
      have c2 : w1.cell? ⟨w.heap.size, 2, none⟩ = some (.slice B nb cb) := hx.cell HB.out (by go_simp)
      have c3 : w1.cell? ⟨w.heap.size, 3, none⟩ = some (.slice S ns cs) := hx.cell HB.out (by go_simp)
      have c4 : w1.cell? ⟨w.heap.size, 4, none⟩ = some (.slice P np cp) := hx.cell HB.out (by go_simp)
      have c5 : w1.cell? ⟨w.heap.size, 5, none⟩ = some (.slice Q nq cq) := hx.cell HB.out (by go_simp)
      clear hx hz1 HB
      go_wp2_with fail
      (with_reducible refine (ValidMulti_is B nb cb dm _ HF.out _ (hm.ext hE)).mono ?_)
      rintro e w2 ⟨rfl, hx2⟩
      have hE2 := hE.trans hx2
      go_wp2
      go_ret
      exact ⟨rfl, hE2⟩
    by_cases k3 : k = 3
    · have HF : Hid (vsyn ds = r) := by show _ = _; rw [← HR.out, if_neg k1, if_neg k2, if_pos k3]
      subst k3
      clear HR
      go_enter Tryz.func16, Tryz.ntmps16
      go_wp2_with fail
      (with_reducible refine (isEmptyBut_is 3 A na ca B nb cb S ns cs P np cp Q nq cq _ he _ hnp hnq).mono ?_)
      rintro e w1 ⟨rfl, hx⟩
      have hz1 := hx.size
      have q1 : w.heap.size < w1.heap.size := Nat.lt_of_lt_of_le HB.out hz1
      have hE : Ext w w1 := Ext.trans (by with_reducible (repeat (first | exact Ext.refl _ | apply Ext.drewN | apply Ext.drew | apply Ext.alloc | (refine Ext.set ?_ (by first | (simp; done) | (simp; omega) | omega) _) | (refine Ext.trans ?_ (by assumption))))) hx
      have c0 : w1.cell? ⟨w.heap.size, 0, none⟩ = some (.int .i64 3) := hx.cell HB.out (by go_simp)
      have c1 : w1.cell? ⟨w.heap.size, 1, none⟩ = some (.slice A na ca) := hx.cell HB.out (by go_simp)
      have c2 : w1.cell? ⟨w.heap.size, 2, none⟩ = some (.slice B nb cb) := hx.cell HB.out (by go_simp)
      have c3 : w1.cell? ⟨w.heap.size, 3, none⟩ = some (.slice S ns cs) := hx.cell HB.out (by go_simp)
      have c4 : w1.cell? ⟨w.heap.size, 4, none⟩ = some (.slice P np cp) := hx.cell HB.out (by go_simp)
      have c5 : w1.cell? ⟨w.heap.size, 5, none⟩ = some (.slice Q nq cq) := hx.cell HB.out (by go_simp)
      clear hx hz1 HB
      go_wp2_with fail
      (with_reducible refine (ValidSync_iz S ns cs ds _ HF.out _ (hs.ext hE)).mono ?_)
      rintro e w2 ⟨rfl, hx2⟩
      have hE2 := hE.trans hx2
      go_wp2
      go_ret
      exact ⟨rfl, hE2⟩
    by_cases k4 : k = 4
    · have HF : Hid (vpas da db = r) := by show _ = _; rw [← HR.out, if_neg k1, if_neg k2, if_neg k3, if_pos k4]
      subst k4
      clear HR
      go_enter Tryz.func16, Tryz.ntmps16
      go_wp2_with fail
      (with_reducible refine (isEmptyBut_is 4 A na ca B nb cb S ns cs P np cp Q nq cq _ he _ hnp hnq).mono ?_)
      rintro e w1 ⟨rfl, hx⟩
      have hz1 := hx.size
      have q1 : w.heap.size < w1.heap.size := Nat.lt_of_lt_of_le HB.out hz1
      have hE : Ext w w1 := Ext.trans (by with_reducible (repeat (first | exact Ext.refl _ | apply Ext.drewN | apply Ext.drew | apply Ext.alloc | (refine Ext.set ?_ (by first | (simp; done) | (simp; omega) | omega) _) | (refine Ext.trans ?_ (by assumption))))) hx
      have c0 : w1.cell? ⟨w.heap.size, 0, none⟩ = some (.int .i64 4) := hx.cell HB.out (by go_simp)
      have c1 : w1.cell? ⟨w.heap.size, 1, none⟩ = some (.slice A na ca) := hx.cell HB.out (by go_simp)
      have c2 : w1.cell? ⟨w.heap.size, 2, none⟩ = some (.slice B nb cb) := hx.cell HB.out (by go_simp)
      have c3 : w1.cell? ⟨w.heap.size, 3, none⟩ = some (.slice S ns cs) := hx.cell HB.out (by go_simp)
      have c4 : w1.cell? ⟨w.heap.size, 4, none⟩ = some (.slice P np cp) := hx.cell HB.out (by go_simp)
      have c5 : w1.cell? ⟨w.heap.size, 5, none⟩ = some (.slice Q nq cq) := hx.cell HB.out (by go_simp)
      clear hx hz1 HB
      go_wp2_with fail
      (with_reducible refine (ValidPassing_iz P Q np cp nq cq da db _ HF.out _ (ha.ext hE) (hb.ext hE)).mono ?_)
      rintro e w2 ⟨rfl, hx2⟩
      have hE2 := hE.trans hx2
      go_wp2
      go_ret
      exact ⟨rfl, hE2⟩
    have HF : Hid (r = false) := by show _ = _; rw [← HR.out, if_neg k1, if_neg k2, if_neg k3, if_neg k4]
    clear HR
    go_enter Tryz.func16, Tryz.ntmps16
    go_wp2_with fail
    (with_reducible refine (isEmptyBut_is k A na ca B nb cb S ns cs P np cp Q nq cq _ he _ hnp hnq).mono ?_)
    rintro e w1 ⟨rfl, hx⟩
    have hz1 := hx.size
    have q1 : w.heap.size < w1.heap.size := Nat.lt_of_lt_of_le HB.out hz1
    have hE : Ext w w1 := Ext.trans (by with_reducible (repeat (first | exact Ext.refl _ | apply Ext.drewN | apply Ext.drew | apply Ext.alloc | (refine Ext.set ?_ (by first | (simp; done) | (simp; omega) | omega) _) | (refine Ext.trans ?_ (by assumption))))) hx
    have c0 : w1.cell? ⟨w.heap.size, 0, none⟩ = some (.int .i64 k) := hx.cell HB.out (by go_simp)
    have c1 : w1.cell? ⟨w.heap.size, 1, none⟩ = some (.slice A na ca) := hx.cell HB.out (by go_simp)
    have c2 : w1.cell? ⟨w.heap.size, 2, none⟩ = some (.slice B nb cb) := hx.cell HB.out (by go_simp)
    have c3 : w1.cell? ⟨w.heap.size, 3, none⟩ = some (.slice S ns cs) := hx.cell HB.out (by go_simp)
    have c4 : w1.cell? ⟨w.heap.size, 4, none⟩ = some (.slice P np cp) := hx.cell HB.out (by go_simp)
    have c5 : w1.cell? ⟨w.heap.size, 5, none⟩ = some (.slice Q nq cq) := hx.cell HB.out (by go_simp)
    clear hx hz1 HB
    go_wp2
    go_ret
    exact ⟨ret_bool HF.out.symm, (by with_reducible (repeat (first | exact Ext.refl _ | apply Ext.drewN | apply Ext.drew | apply Ext.alloc | (refine Ext.set ?_ (by first | (simp; done) | (simp; omega) | omega) _) | (refine Ext.trans ?_ (by assumption)))))⟩
theorem l02Ok_ie (A : Option Addr) (n c : Nat) (xs : List Int) (v : Bool) (hv : vpat xs = v) (w : World) (hI : Ints w A n xs) :
    Calls Tryz.prog 66 #[.slice A n c] w fun e w' => e = .returned (.bool v) ∧ Ext w w' :=
  (l02Ok_is A n c xs v hv w hI).mono fun _ _ ⟨h1, h2⟩ => ⟨h1, Ext.qt (Ext.refl _) h2⟩
set_option maxHeartbeats 40000000 in
theorem l07Ok_any (g : Nat) (V : NV) (D : ND) (w : World) (hB : NBox w g V) (hI : NtR w V D) :
    Calls Tryz.prog 28 #[.pointer (some ⟨g, 0, none⟩)] w fun e w' => e = .returned (.bool (vnt D)) ∧ Ext w w' := by
  obtain ⟨k, A, na, ca, B, nb, cb, S, ns, cs, P, np, cp, Q, nq, cq⟩ := V
  obtain ⟨kk, dp, dm, ds, da, db⟩ := D
  obtain ⟨hk, hp, hm, hs, ha, hb⟩ := hI
  obtain ⟨hg, c0, c1, c2, c3, c4, c5⟩ := hB
  dsimp only at *
  subst hk
  have hsp := hp.small
  have hsm := hm.small
  have hss := hs.small
  have hsa := ha.small
  have hsb := hb.small
  have HMB : Hid (MBox w g 2 B nb cb) := ⟨hg, c2⟩
  have HPB : Hid (PBoxO w g 4 P np cp Q nq cq) := ⟨hg, c4, c5⟩
  obtain ⟨r, hr⟩ : ∃ r, vnt ⟨k, dp, dm, ds, da, db⟩ = r := ⟨_, rfl⟩
  have HR : Hid ((ebt k na nb ns (np + nq) && (if k = 1 then vpat dp else if k = 2 then vmul dm else if k = 3 then vsyn ds else if k = 4 then vpas da db else false)) = r) := by
    show _ = _
    rw [← hr]
    unfold vnt
    dsimp only
    rw [hp.len, hm.len, ha.len, hb.len, show ds.length / 2 = ns by have := hs.len; omega]
  rw [hr]
  clear hr
  have hv1 : vpat dp = true → 1 ≤ na := fun h => by have := vpat_len h; rw [hp.len] at this; exact this.1
  have hv2 : vmul dm = true → 1 ≤ nb := fun h => by have := vmul_len h; rw [hm.len] at this; exact this.1
  have hv3 : vsyn ds = true → 1 ≤ ns := fun h => by have := vsyn_len h; have := hs.len; omega
  have hv4 : vpas da db = true → 1 ≤ np ∧ nq = np := fun h => by have := vpas_len h; rw [ha.len, hb.len] at this; omega
  have HNO : Hid (¬ ((na ≠ 0 ∧ nb = 0 ∧ ns = 0 ∧ np + nq = 0) ∨ (na = 0 ∧ nb ≠ 0 ∧ ns = 0 ∧ np + nq = 0) ∨ (na = 0 ∧ nb = 0 ∧ ns ≠ 0 ∧ np + nq = 0) ∨ (na = 0 ∧ nb = 0 ∧ ns = 0 ∧ np + nq ≠ 0)) → r = false) := fun h => by
    rw [← HR.out]
    unfold ebt
    rw [Bool.and_eq_false_iff, decide_eq_false_iff_not]
    by_cases hE : (k = 1 ∨ na = 0) ∧ (k = 2 ∨ nb = 0) ∧ (k = 3 ∨ ns = 0) ∧ (k = 4 ∨ np + nq = 0)
    · right
      split
      · cases hh : vpat dp
        · rfl
        · have := hv1 hh; omega
      · split
        · cases hh : vmul dm
          · rfl
          · have := hv2 hh; omega
        · split
          · cases hh : vsyn ds
            · rfl
            · have := hv3 hh; omega
          · split
            · cases hh : vpas da db
              · rfl
              · have := hv4 hh; omega
            · rfl
    · exact .inl hE
  have HYES : Hid (((na ≠ 0 ∧ nb = 0 ∧ ns = 0 ∧ np + nq = 0) ∨ (na = 0 ∧ nb ≠ 0 ∧ ns = 0 ∧ np + nq = 0) ∨ (na = 0 ∧ nb = 0 ∧ ns ≠ 0 ∧ np + nq = 0) ∨ (na = 0 ∧ nb = 0 ∧ ns = 0 ∧ np + nq ≠ 0)) → (if k = 1 then vpat dp else if k = 2 then vmul dm else if k = 3 then vsyn ds else if k = 4 then vpas da db else false) = r) := fun h => by
    rw [← HR.out]
    cases he : ebt k na nb ns (np + nq)
    · rw [Bool.false_and]
      have hE : ¬ ((k = 1 ∨ na = 0) ∧ (k = 2 ∨ nb = 0) ∧ (k = 3 ∨ ns = 0) ∧ (k = 4 ∨ np + nq = 0)) := of_decide_eq_false he
      split
      · cases hh : vpat dp
        · rfl
        · have := hv1 hh; omega
      · split
        · cases hh : vmul dm
          · rfl
          · have := hv2 hh; omega
        · split
          · cases hh : vsyn ds
            · rfl
            · have := hv3 hh; omega
          · split
            · cases hh : vpas da db
              · rfl
              · have := hv4 hh; omega
            · rfl
    · rw [Bool.true_and]
  clear HR hv1 hv2 hv3 hv4
  by_cases zna : na = 0
  ·
    subst zna
    by_cases znb : nb = 0
    ·
      subst znb
      by_cases zns : ns = 0
      ·
        subst zns
        by_cases znp : np = 0
        · subst znp
          by_cases znq : nq = 0
          · subst znq
            have HF : Hid (r = false) := HNO.out (by omega)
            go_enter Tryz.func28, Tryz.ntmps28
            go_wp2
            go_ret
            exact ⟨ret_bool HF.out.symm, (by with_reducible (repeat (first | exact Ext.refl _ | apply Ext.drewN | apply Ext.drew | apply Ext.alloc | (refine Ext.set ?_ (by first | (simp; done) | (simp; omega) | omega) _) | (refine Ext.trans ?_ (by assumption)))))⟩
          · have inq : ¬ ((nq : Nat) : Int) = 0 := by omega
            have HY := Lib.hid (HYES.out (by omega))
            clear HNO HYES
            by_cases k1 : k = 1
            · have HF : Hid (vpat dp = r) := by show _ = _; rw [← HY.out, if_pos k1]
              subst k1
              clear HY
              go_enter Tryz.func28, Tryz.ntmps28
              go_wp2_with fail
              (with_reducible refine (l02Ok_ie A 0 ca dp _ HF.out _ hp).mono ?_)
              rintro e w2 ⟨rfl, hx2⟩
              go_wp2
              go_ret
              exact ⟨rfl, hx2⟩
            by_cases k2 : k = 2
            · have HF : Hid (vmul dm = r) := by show _ = _; rw [← HY.out, if_neg k1, if_pos k2]
              subst k2
              clear HY
              go_enter Tryz.func28, Tryz.ntmps28
              go_wp2_with fail
              (with_reducible refine (l04Ok_is g 2 B 0 cb dm _ HF.out _ HMB.out hm).mono ?_)
              rintro e w2 ⟨rfl, hx2⟩
              go_wp2
              go_ret
              exact ⟨rfl, hx2⟩
            by_cases k3 : k = 3
            · have HF : Hid (vsyn ds = r) := by show _ = _; rw [← HY.out, if_neg k1, if_neg k2, if_pos k3]
              subst k3
              clear HY
              go_enter Tryz.func28, Tryz.ntmps28
              go_wp2_with fail
              (with_reducible refine (l05Ok_is S 0 cs ds _ HF.out _ hs).mono ?_)
              rintro e w2 ⟨rfl, hx2⟩
              go_wp2
              go_ret
              exact ⟨rfl, hx2⟩
            by_cases k4 : k = 4
            · have HF : Hid (vpas da db = r) := by show _ = _; rw [← HY.out, if_neg k1, if_neg k2, if_neg k3, if_pos k4]
              subst k4
              clear HY
              go_enter Tryz.func28, Tryz.ntmps28
              go_wp2_with fail
              (with_reducible refine (l06Ok_os g 4 P Q 0 cp nq cq da db _ HF.out _ HPB.out ha hb).mono ?_)
              rintro e w2 ⟨rfl, hx2⟩
              go_wp2
              go_ret
              exact ⟨rfl, hx2⟩
            have HF : Hid (r = false) := by show _ = _; rw [← HY.out, if_neg k1, if_neg k2, if_neg k3, if_neg k4]
            clear HY
            go_enter Tryz.func28, Tryz.ntmps28
            go_wp2
            go_ret
            exact ⟨ret_bool HF.out.symm, (by with_reducible (repeat (first | exact Ext.refl _ | apply Ext.drewN | apply Ext.drew | apply Ext.alloc | (refine Ext.set ?_ (by first | (simp; done) | (simp; omega) | omega) _) | (refine Ext.trans ?_ (by assumption)))))⟩
        · have inp : ¬ ((np : Nat) : Int) = 0 := by omega
          have HY := Lib.hid (HYES.out (by omega))
          clear HNO HYES
          by_cases k1 : k = 1
          · have HF : Hid (vpat dp = r) := by show _ = _; rw [← HY.out, if_pos k1]
            subst k1
            clear HY
            go_enter Tryz.func28, Tryz.ntmps28
            go_wp2_with fail
            (with_reducible refine (l02Ok_ie A 0 ca dp _ HF.out _ hp).mono ?_)
            rintro e w2 ⟨rfl, hx2⟩
            go_wp2
            go_ret
            exact ⟨rfl, hx2⟩
          by_cases k2 : k = 2
          · have HF : Hid (vmul dm = r) := by show _ = _; rw [← HY.out, if_neg k1, if_pos k2]
            subst k2
            clear HY
            go_enter Tryz.func28, Tryz.ntmps28
            go_wp2_with fail
            (with_reducible refine (l04Ok_is g 2 B 0 cb dm _ HF.out _ HMB.out hm).mono ?_)
            rintro e w2 ⟨rfl, hx2⟩
            go_wp2
            go_ret
            exact ⟨rfl, hx2⟩
          by_cases k3 : k = 3
          · have HF : Hid (vsyn ds = r) := by show _ = _; rw [← HY.out, if_neg k1, if_neg k2, if_pos k3]
            subst k3
            clear HY
            go_enter Tryz.func28, Tryz.ntmps28
            go_wp2_with fail
            (with_reducible refine (l05Ok_is S 0 cs ds _ HF.out _ hs).mono ?_)
            rintro e w2 ⟨rfl, hx2⟩
            go_wp2
            go_ret
            exact ⟨rfl, hx2⟩
          by_cases k4 : k = 4
          · have HF : Hid (vpas da db = r) := by show _ = _; rw [← HY.out, if_neg k1, if_neg k2, if_neg k3, if_pos k4]
            subst k4
            clear HY
            go_enter Tryz.func28, Tryz.ntmps28
            go_wp2_with fail
            (with_reducible refine (l06Ok_os g 4 P Q np cp nq cq da db _ HF.out _ HPB.out ha hb).mono ?_)
            rintro e w2 ⟨rfl, hx2⟩
            go_wp2
            go_ret
            exact ⟨rfl, hx2⟩
          have HF : Hid (r = false) := by show _ = _; rw [← HY.out, if_neg k1, if_neg k2, if_neg k3, if_neg k4]
          clear HY
          go_enter Tryz.func28, Tryz.ntmps28
          go_wp2
          go_ret
          exact ⟨ret_bool HF.out.symm, (by with_reducible (repeat (first | exact Ext.refl _ | apply Ext.drewN | apply Ext.drew | apply Ext.alloc | (refine Ext.set ?_ (by first | (simp; done) | (simp; omega) | omega) _) | (refine Ext.trans ?_ (by assumption)))))⟩
      · have ins : ¬ ((ns : Nat) : Int) = 0 := by omega
        by_cases znp : np = 0
        · subst znp
          by_cases znq : nq = 0
          · subst znq
            have HY := Lib.hid (HYES.out (by omega))
            clear HNO HYES
            by_cases k1 : k = 1
            · have HF : Hid (vpat dp = r) := by show _ = _; rw [← HY.out, if_pos k1]
              subst k1
              clear HY
              go_enter Tryz.func28, Tryz.ntmps28
              go_wp2_with fail
              (with_reducible refine (l02Ok_ie A 0 ca dp _ HF.out _ hp).mono ?_)
              rintro e w2 ⟨rfl, hx2⟩
              go_wp2
              go_ret
              exact ⟨rfl, hx2⟩
            by_cases k2 : k = 2
            · have HF : Hid (vmul dm = r) := by show _ = _; rw [← HY.out, if_neg k1, if_pos k2]
              subst k2
              clear HY
              go_enter Tryz.func28, Tryz.ntmps28
              go_wp2_with fail
              (with_reducible refine (l04Ok_is g 2 B 0 cb dm _ HF.out _ HMB.out hm).mono ?_)
              rintro e w2 ⟨rfl, hx2⟩
              go_wp2
              go_ret
              exact ⟨rfl, hx2⟩
            by_cases k3 : k = 3
            · have HF : Hid (vsyn ds = r) := by show _ = _; rw [← HY.out, if_neg k1, if_neg k2, if_pos k3]
              subst k3
              clear HY
              go_enter Tryz.func28, Tryz.ntmps28
              go_wp2_with fail
              (with_reducible refine (l05Ok_is S ns cs ds _ HF.out _ hs).mono ?_)
              rintro e w2 ⟨rfl, hx2⟩
              go_wp2
              go_ret
              exact ⟨rfl, hx2⟩
            by_cases k4 : k = 4
            · have HF : Hid (vpas da db = r) := by show _ = _; rw [← HY.out, if_neg k1, if_neg k2, if_neg k3, if_pos k4]
              subst k4
              clear HY
              go_enter Tryz.func28, Tryz.ntmps28
              go_wp2_with fail
              (with_reducible refine (l06Ok_os g 4 P Q 0 cp 0 cq da db _ HF.out _ HPB.out ha hb).mono ?_)
              rintro e w2 ⟨rfl, hx2⟩
              go_wp2
              go_ret
              exact ⟨rfl, hx2⟩
            have HF : Hid (r = false) := by show _ = _; rw [← HY.out, if_neg k1, if_neg k2, if_neg k3, if_neg k4]
            clear HY
            go_enter Tryz.func28, Tryz.ntmps28
            go_wp2
            go_ret
            exact ⟨ret_bool HF.out.symm, (by with_reducible (repeat (first | exact Ext.refl _ | apply Ext.drewN | apply Ext.drew | apply Ext.alloc | (refine Ext.set ?_ (by first | (simp; done) | (simp; omega) | omega) _) | (refine Ext.trans ?_ (by assumption)))))⟩
          · have inq : ¬ ((nq : Nat) : Int) = 0 := by omega
            have HF : Hid (r = false) := HNO.out (by omega)
            go_enter Tryz.func28, Tryz.ntmps28
            go_wp2
            go_ret
            exact ⟨ret_bool HF.out.symm, (by with_reducible (repeat (first | exact Ext.refl _ | apply Ext.drewN | apply Ext.drew | apply Ext.alloc | (refine Ext.set ?_ (by first | (simp; done) | (simp; omega) | omega) _) | (refine Ext.trans ?_ (by assumption)))))⟩
        · have inp : ¬ ((np : Nat) : Int) = 0 := by omega
          have HF : Hid (r = false) := HNO.out (by omega)
          go_enter Tryz.func28, Tryz.ntmps28
          go_wp2
          go_ret
          exact ⟨ret_bool HF.out.symm, (by with_reducible (repeat (first | exact Ext.refl _ | apply Ext.drewN | apply Ext.drew | apply Ext.alloc | (refine Ext.set ?_ (by first | (simp; done) | (simp; omega) | omega) _) | (refine Ext.trans ?_ (by assumption)))))⟩
    · have inb : ¬ ((nb : Nat) : Int) = 0 := by omega
      by_cases zns : ns = 0
      ·
        subst zns
        by_cases znp : np = 0
        · subst znp
          by_cases znq : nq = 0
          · subst znq
            have HY := Lib.hid (HYES.out (by omega))
            clear HNO HYES
            by_cases k1 : k = 1
            · have HF : Hid (vpat dp = r) := by show _ = _; rw [← HY.out, if_pos k1]
              subst k1
              clear HY
              go_enter Tryz.func28, Tryz.ntmps28
              go_wp2_with fail
              (with_reducible refine (l02Ok_ie A 0 ca dp _ HF.out _ hp).mono ?_)
              rintro e w2 ⟨rfl, hx2⟩
              go_wp2
              go_ret
              exact ⟨rfl, hx2⟩
            by_cases k2 : k = 2
            · have HF : Hid (vmul dm = r) := by show _ = _; rw [← HY.out, if_neg k1, if_pos k2]
              subst k2
              clear HY
              go_enter Tryz.func28, Tryz.ntmps28
              go_wp2_with fail
              (with_reducible refine (l04Ok_is g 2 B nb cb dm _ HF.out _ HMB.out hm).mono ?_)
              rintro e w2 ⟨rfl, hx2⟩
              go_wp2
              go_ret
              exact ⟨rfl, hx2⟩
            by_cases k3 : k = 3
            · have HF : Hid (vsyn ds = r) := by show _ = _; rw [← HY.out, if_neg k1, if_neg k2, if_pos k3]
              subst k3
              clear HY
              go_enter Tryz.func28, Tryz.ntmps28
              go_wp2_with fail
              (with_reducible refine (l05Ok_is S 0 cs ds _ HF.out _ hs).mono ?_)
              rintro e w2 ⟨rfl, hx2⟩
              go_wp2
              go_ret
              exact ⟨rfl, hx2⟩
            by_cases k4 : k = 4
            · have HF : Hid (vpas da db = r) := by show _ = _; rw [← HY.out, if_neg k1, if_neg k2, if_neg k3, if_pos k4]
              subst k4
              clear HY
              go_enter Tryz.func28, Tryz.ntmps28
              go_wp2_with fail
              (with_reducible refine (l06Ok_os g 4 P Q 0 cp 0 cq da db _ HF.out _ HPB.out ha hb).mono ?_)
              rintro e w2 ⟨rfl, hx2⟩
              go_wp2
              go_ret
              exact ⟨rfl, hx2⟩
            have HF : Hid (r = false) := by show _ = _; rw [← HY.out, if_neg k1, if_neg k2, if_neg k3, if_neg k4]
            clear HY
            go_enter Tryz.func28, Tryz.ntmps28
            go_wp2
            go_ret
            exact ⟨ret_bool HF.out.symm, (by with_reducible (repeat (first | exact Ext.refl _ | apply Ext.drewN | apply Ext.drew | apply Ext.alloc | (refine Ext.set ?_ (by first | (simp; done) | (simp; omega) | omega) _) | (refine Ext.trans ?_ (by assumption)))))⟩
          · have inq : ¬ ((nq : Nat) : Int) = 0 := by omega
            have HF : Hid (r = false) := HNO.out (by omega)
            go_enter Tryz.func28, Tryz.ntmps28
            go_wp2
            go_ret
            exact ⟨ret_bool HF.out.symm, (by with_reducible (repeat (first | exact Ext.refl _ | apply Ext.drewN | apply Ext.drew | apply Ext.alloc | (refine Ext.set ?_ (by first | (simp; done) | (simp; omega) | omega) _) | (refine Ext.trans ?_ (by assumption)))))⟩
        · have inp : ¬ ((np : Nat) : Int) = 0 := by omega
          have HF : Hid (r = false) := HNO.out (by omega)
          go_enter Tryz.func28, Tryz.ntmps28
          go_wp2
          go_ret
          exact ⟨ret_bool HF.out.symm, (by with_reducible (repeat (first | exact Ext.refl _ | apply Ext.drewN | apply Ext.drew | apply Ext.alloc | (refine Ext.set ?_ (by first | (simp; done) | (simp; omega) | omega) _) | (refine Ext.trans ?_ (by assumption)))))⟩
      · have ins : ¬ ((ns : Nat) : Int) = 0 := by omega
        by_cases znp : np = 0
        · subst znp
          by_cases znq : nq = 0
          · subst znq
            have HF : Hid (r = false) := HNO.out (by omega)
            go_enter Tryz.func28, Tryz.ntmps28
            go_wp2
            go_ret
            exact ⟨ret_bool HF.out.symm, (by with_reducible (repeat (first | exact Ext.refl _ | apply Ext.drewN | apply Ext.drew | apply Ext.alloc | (refine Ext.set ?_ (by first | (simp; done) | (simp; omega) | omega) _) | (refine Ext.trans ?_ (by assumption)))))⟩
          · have inq : ¬ ((nq : Nat) : Int) = 0 := by omega
            have HF : Hid (r = false) := HNO.out (by omega)
            go_enter Tryz.func28, Tryz.ntmps28
            go_wp2
            go_ret
            exact ⟨ret_bool HF.out.symm, (by with_reducible (repeat (first | exact Ext.refl _ | apply Ext.drewN | apply Ext.drew | apply Ext.alloc | (refine Ext.set ?_ (by first | (simp; done) | (simp; omega) | omega) _) | (refine Ext.trans ?_ (by assumption)))))⟩
        · have inp : ¬ ((np : Nat) : Int) = 0 := by omega
          have HF : Hid (r = false) := HNO.out (by omega)
          go_enter Tryz.func28, Tryz.ntmps28
          go_wp2
          go_ret
          exact ⟨ret_bool HF.out.symm, (by with_reducible (repeat (first | exact Ext.refl _ | apply Ext.drewN | apply Ext.drew | apply Ext.alloc | (refine Ext.set ?_ (by first | (simp; done) | (simp; omega) | omega) _) | (refine Ext.trans ?_ (by assumption)))))⟩
  · have ina : ¬ ((na : Nat) : Int) = 0 := by omega
    by_cases znb : nb = 0
    ·
      subst znb
      by_cases zns : ns = 0
      ·
        subst zns
        by_cases znp : np = 0
        · subst znp
          by_cases znq : nq = 0
          · subst znq
            have HY := Lib.hid (HYES.out (by omega))
            clear HNO HYES
            by_cases k1 : k = 1
            · have HF : Hid (vpat dp = r) := by show _ = _; rw [← HY.out, if_pos k1]
              subst k1
              clear HY
              go_enter Tryz.func28, Tryz.ntmps28
              go_wp2_with fail
              (with_reducible refine (l02Ok_ie A na ca dp _ HF.out _ hp).mono ?_)
              rintro e w2 ⟨rfl, hx2⟩
              go_wp2
              go_ret
              exact ⟨rfl, hx2⟩
            by_cases k2 : k = 2
            · have HF : Hid (vmul dm = r) := by show _ = _; rw [← HY.out, if_neg k1, if_pos k2]
              subst k2
              clear HY
              go_enter Tryz.func28, Tryz.ntmps28
              go_wp2_with fail
              (with_reducible refine (l04Ok_is g 2 B 0 cb dm _ HF.out _ HMB.out hm).mono ?_)
              rintro e w2 ⟨rfl, hx2⟩
              go_wp2
              go_ret
              exact ⟨rfl, hx2⟩
            by_cases k3 : k = 3
            · have HF : Hid (vsyn ds = r) := by show _ = _; rw [← HY.out, if_neg k1, if_neg k2, if_pos k3]
              subst k3
              clear HY
              go_enter Tryz.func28, Tryz.ntmps28
              go_wp2_with fail
              (with_reducible refine (l05Ok_is S 0 cs ds _ HF.out _ hs).mono ?_)
              rintro e w2 ⟨rfl, hx2⟩
              go_wp2
              go_ret
              exact ⟨rfl, hx2⟩
            by_cases k4 : k = 4
            · have HF : Hid (vpas da db = r) := by show _ = _; rw [← HY.out, if_neg k1, if_neg k2, if_neg k3, if_pos k4]
              subst k4
              clear HY
              go_enter Tryz.func28, Tryz.ntmps28
              go_wp2_with fail
              (with_reducible refine (l06Ok_os g 4 P Q 0 cp 0 cq da db _ HF.out _ HPB.out ha hb).mono ?_)
              rintro e w2 ⟨rfl, hx2⟩
              go_wp2
              go_ret
              exact ⟨rfl, hx2⟩
            have HF : Hid (r = false) := by show _ = _; rw [← HY.out, if_neg k1, if_neg k2, if_neg k3, if_neg k4]
            clear HY
            go_enter Tryz.func28, Tryz.ntmps28
            go_wp2
            go_ret
            exact ⟨ret_bool HF.out.symm, (by with_reducible (repeat (first | exact Ext.refl _ | apply Ext.drewN | apply Ext.drew | apply Ext.alloc | (refine Ext.set ?_ (by first | (simp; done) | (simp; omega) | omega) _) | (refine Ext.trans ?_ (by assumption)))))⟩
          · have inq : ¬ ((nq : Nat) : Int) = 0 := by omega
            have HF : Hid (r = false) := HNO.out (by omega)
            go_enter Tryz.func28, Tryz.ntmps28
            go_wp2
            go_ret
            exact ⟨ret_bool HF.out.symm, (by with_reducible (repeat (first | exact Ext.refl _ | apply Ext.drewN | apply Ext.drew | apply Ext.alloc | (refine Ext.set ?_ (by first | (simp; done) | (simp; omega) | omega) _) | (refine Ext.trans ?_ (by assumption)))))⟩
        · have inp : ¬ ((np : Nat) : Int) = 0 := by omega
          have HF : Hid (r = false) := HNO.out (by omega)
          go_enter Tryz.func28, Tryz.ntmps28
          go_wp2
          go_ret
          exact ⟨ret_bool HF.out.symm, (by with_reducible (repeat (first | exact Ext.refl _ | apply Ext.drewN | apply Ext.drew | apply Ext.alloc | (refine Ext.set ?_ (by first | (simp; done) | (simp; omega) | omega) _) | (refine Ext.trans ?_ (by assumption)))))⟩
      · have ins : ¬ ((ns : Nat) : Int) = 0 := by omega
        by_cases znp : np = 0
        · subst znp
          by_cases znq : nq = 0
          · subst znq
            have HF : Hid (r = false) := HNO.out (by omega)
            go_enter Tryz.func28, Tryz.ntmps28
            go_wp2
            go_ret
            exact ⟨ret_bool HF.out.symm, (by with_reducible (repeat (first | exact Ext.refl _ | apply Ext.drewN | apply Ext.drew | apply Ext.alloc | (refine Ext.set ?_ (by first | (simp; done) | (simp; omega) | omega) _) | (refine Ext.trans ?_ (by assumption)))))⟩
          · have inq : ¬ ((nq : Nat) : Int) = 0 := by omega
            have HF : Hid (r = false) := HNO.out (by omega)
            go_enter Tryz.func28, Tryz.ntmps28
            go_wp2
            go_ret
            exact ⟨ret_bool HF.out.symm, (by with_reducible (repeat (first | exact Ext.refl _ | apply Ext.drewN | apply Ext.drew | apply Ext.alloc | (refine Ext.set ?_ (by first | (simp; done) | (simp; omega) | omega) _) | (refine Ext.trans ?_ (by assumption)))))⟩
        · have inp : ¬ ((np : Nat) : Int) = 0 := by omega
          have HF : Hid (r = false) := HNO.out (by omega)
          go_enter Tryz.func28, Tryz.ntmps28
          go_wp2
          go_ret
          exact ⟨ret_bool HF.out.symm, (by with_reducible (repeat (first | exact Ext.refl _ | apply Ext.drewN | apply Ext.drew | apply Ext.alloc | (refine Ext.set ?_ (by first | (simp; done) | (simp; omega) | omega) _) | (refine Ext.trans ?_ (by assumption)))))⟩
    · have inb : ¬ ((nb : Nat) : Int) = 0 := by omega
      by_cases zns : ns = 0
      ·
        subst zns
        by_cases znp : np = 0
        · subst znp
          by_cases znq : nq = 0
          · subst znq
            have HF : Hid (r = false) := HNO.out (by omega)
            go_enter Tryz.func28, Tryz.ntmps28
            go_wp2
            go_ret
            exact ⟨ret_bool HF.out.symm, (by with_reducible (repeat (first | exact Ext.refl _ | apply Ext.drewN | apply Ext.drew | apply Ext.alloc | (refine Ext.set ?_ (by first | (simp; done) | (simp; omega) | omega) _) | (refine Ext.trans ?_ (by assumption)))))⟩
          · have inq : ¬ ((nq : Nat) : Int) = 0 := by omega
            have HF : Hid (r = false) := HNO.out (by omega)
            go_enter Tryz.func28, Tryz.ntmps28
            go_wp2
            go_ret
            exact ⟨ret_bool HF.out.symm, (by with_reducible (repeat (first | exact Ext.refl _ | apply Ext.drewN | apply Ext.drew | apply Ext.alloc | (refine Ext.set ?_ (by first | (simp; done) | (simp; omega) | omega) _) | (refine Ext.trans ?_ (by assumption)))))⟩
        · have inp : ¬ ((np : Nat) : Int) = 0 := by omega
          have HF : Hid (r = false) := HNO.out (by omega)
          go_enter Tryz.func28, Tryz.ntmps28
          go_wp2
          go_ret
          exact ⟨ret_bool HF.out.symm, (by with_reducible (repeat (first | exact Ext.refl _ | apply Ext.drewN | apply Ext.drew | apply Ext.alloc | (refine Ext.set ?_ (by first | (simp; done) | (simp; omega) | omega) _) | (refine Ext.trans ?_ (by assumption)))))⟩
      · have ins : ¬ ((ns : Nat) : Int) = 0 := by omega
        by_cases znp : np = 0
        · subst znp
          by_cases znq : nq = 0
          · subst znq
            have HF : Hid (r = false) := HNO.out (by omega)
            go_enter Tryz.func28, Tryz.ntmps28
            go_wp2
            go_ret
            exact ⟨ret_bool HF.out.symm, (by with_reducible (repeat (first | exact Ext.refl _ | apply Ext.drewN | apply Ext.drew | apply Ext.alloc | (refine Ext.set ?_ (by first | (simp; done) | (simp; omega) | omega) _) | (refine Ext.trans ?_ (by assumption)))))⟩
          · have inq : ¬ ((nq : Nat) : Int) = 0 := by omega
            have HF : Hid (r = false) := HNO.out (by omega)
            go_enter Tryz.func28, Tryz.ntmps28
            go_wp2
            go_ret
            exact ⟨ret_bool HF.out.symm, (by with_reducible (repeat (first | exact Ext.refl _ | apply Ext.drewN | apply Ext.drew | apply Ext.alloc | (refine Ext.set ?_ (by first | (simp; done) | (simp; omega) | omega) _) | (refine Ext.trans ?_ (by assumption)))))⟩
        · have inp : ¬ ((np : Nat) : Int) = 0 := by omega
          have HF : Hid (r = false) := HNO.out (by omega)
          go_enter Tryz.func28, Tryz.ntmps28
          go_wp2
          go_ret
          exact ⟨ret_bool HF.out.symm, (by with_reducible (repeat (first | exact Ext.refl _ | apply Ext.drewN | apply Ext.drew | apply Ext.alloc | (refine Ext.set ?_ (by first | (simp; done) | (simp; omega) | omega) _) | (refine Ext.trans ?_ (by assumption)))))⟩
end Go.Proofs.YtbihbhdaenhdoaaGreat
