/- Thr7 Thr8 Thr9 Psd3 in one text (a claim has at most 60 files). No condition but the stated bounds. -/
import Derived.Test.YtbihbhdaenhdoaaGreatThr6
import Derived.Test.YtbihbhdaenhdoaaGreatFj2
import Derived.Test.YtbihbhdaenhdoaaGreatTog
import Derived.Deep.CutRange
namespace Go.Proofs.YtbihbhdaenhdoaaGreat
set_option linter.unusedVariables false
set_option linter.unusedSimpArgs false
open Go.ChangeShapes Go.WideShapes Go.ChangeAt Go.RowKit Go.Joins Go.Deep

/-- What hands back a pattern and a code. -/
def RetPC (w : World) (ts us : List (Int × Bool)) (r : Int) (e : Ending) (w' : World) : Prop :=
  ∃ A n c B m d, e = .returned (.tuple #[.agg #[.slice A n c, .slice B m d], .int .i64 r]) ∧ PassR w' w.heap.size w'.heap.size A n c B m d ts us ∧ Ext w w'
/-- The other juggler's pattern. -/
def swj (ts us : List (Int × Bool)) : List (Int × Bool) × List (Int × Bool) × Int := if vpas ts us then (us, ts, 0) else ([], [], 1)
theorem vpas_parts {ts us : List (Int × Bool)} (h : vpas ts us = true) : 1 ≤ ts.length ∧ ts.length ≤ 8 ∧ us.length = ts.length ∧ (∀ i, i < ts.length → 0 ≤ tv ts i ∧ tv ts i ≤ 15) ∧ (∀ i, i < us.length → 0 ≤ tv us i ∧ tv us i ≤ 15) := by
  unfold vpas at h
  rw [Bool.and_eq_true] at h
  exact fpas_parts h.1
theorem PassR.far {w : World} {lo hi : Nat} {A B : Option Addr} {n c m d : Nat} {ts us : List (Int × Bool)} (h : PassR w lo hi A n c B m d ts us) {p : Addr} (hp : p.block < lo ∨ hi ≤ p.block) (v : Value) : PassR (w.setCell p v) lo hi A n c B m d ts us := ⟨h.a.far hp v, h.b.far hp v, h.ne⟩
end Go.Proofs.YtbihbhdaenhdoaaGreat

namespace Go.Proofs.YtbihbhdaenhdoaaGreat
set_option linter.unusedVariables false
set_option linter.unusedSimpArgs false
open Go.ChangeShapes Go.WideShapes Go.ChangeAt Go.RowKit Go.Joins Go.Deep

theorem swj_bd {ts us ys zs : List (Int × Bool)} {r : Int} (h : swj ts us = (ys, zs, r)) : ys.length ≤ 1048576 ∧ zs.length ≤ 1048576 := by
  unfold swj at h
  split at h
  · obtain ⟨g1, g2, g3, -, -⟩ := vpas_parts (by assumption)
    simp only [Prod.mk.injEq] at h
    obtain ⟨rfl, rfl, -⟩ := h
    omega
  · simp only [Prod.mk.injEq] at h
    obtain ⟨rfl, rfl, -⟩ := h
    simp
end Go.Proofs.YtbihbhdaenhdoaaGreat

namespace Go.Proofs.YtbihbhdaenhdoaaGreat
set_option linter.unusedVariables false
set_option linter.unusedSimpArgs false
open Go.ChangeShapes Go.WideShapes Go.ChangeAt Go.RowKit Go.Joins Go.Deep

/-- The pattern of which both throws at a beat land at each other's place. -/
def exj (ts us : List (Int × Bool)) (k : Int) : List (Int × Bool) × List (Int × Bool) × Int :=
  if vpas ts us then
    if btw k 0 ((ts.length : Int) - 1) then
      if tv ts k.toNat = 0 ∨ tv us k.toNat = 0 then ([], [], 6)
      else (ts.set k.toNat (tv us k.toNat, !tp us k.toNat), us.set k.toNat (tv ts k.toNat, !tp ts k.toNat), 0)
    else ([], [], 2)
  else ([], [], 1)
theorem exj_bd {ts us ys zs : List (Int × Bool)} {k r : Int} (h : exj ts us k = (ys, zs, r)) : ys.length ≤ 1048576 ∧ zs.length ≤ 1048576 := by
  unfold exj at h
  split at h
  · obtain ⟨g1, g2, g3, -, -⟩ := vpas_parts (by assumption)
    split at h
    · split at h
      · simp only [Prod.mk.injEq] at h
        obtain ⟨rfl, rfl, -⟩ := h
        simp
      · simp only [Prod.mk.injEq] at h
        obtain ⟨rfl, rfl, -⟩ := h
        simp
        omega
    · simp only [Prod.mk.injEq] at h
      obtain ⟨rfl, rfl, -⟩ := h
      simp
  · simp only [Prod.mk.injEq] at h
    obtain ⟨rfl, rfl, -⟩ := h
    simp
theorem tv_set {ts : List (Int × Bool)} {k i : Nat} {v : Int} {p : Bool} (hk : k < ts.length) : tv (ts.set k (v, p)) i = if i = k then v else tv ts i := by
  unfold tv
  rw [List.getElem?_set]
  split
  · rename_i h; subst h; simp [hk]
  · rename_i h; rw [if_neg (fun e => h e.symm)]
theorem tp_set {ts : List (Int × Bool)} {k i : Nat} {v : Int} {p : Bool} (hk : k < ts.length) : tp (ts.set k (v, p)) i = if i = k then p else tp ts i := by
  unfold tp
  rw [List.getElem?_set]
  split
  · rename_i h; subst h; simp [hk]
  · rename_i h; rw [if_neg (fun e => h e.symm)]
section
variable {w : World} {lo hi : Nat} {g n c : Nat} {ts : List (Int × Bool)}
/-- A throw of a row is written. -/
theorem RowT.store (h : RowT w lo hi (some ⟨g, 0, none⟩) n c ts) {k : Nat} (hk : k < n) (v : Int) (p : Bool) : RowT ((w.setCell ⟨g, k * 2, none⟩ (.int .i64 v)).setCell ⟨g, k * 2 + 1, none⟩ (.bool p)) lo hi (some ⟨g, 0, none⟩) n c (ts.set k (v, p)) := by
  obtain ⟨cs, hR, hat⟩ := h.row
  have hl := hR.len
  refine ⟨by rw [List.length_set, h.len], _, (hR.store _ _).store _ _, fun i hi => ?_⟩
  rw [tv_set (by rw [h.len]; exact hk), tp_set (by rw [h.len]; exact hk)]
  by_cases e : i = k
  · subst e
    rw [if_pos rfl, if_pos rfl]
    refine ⟨?_, ?_⟩
    · rw [List.getElem?_set_ne (by omega), List.getElem?_set_self (by omega)]
    · rw [List.getElem?_set_self (by rw [List.length_set]; omega)]
  · rw [if_neg e, if_neg e]
    obtain ⟨e0, e1⟩ := hat i hi
    refine ⟨?_, ?_⟩
    · rw [List.getElem?_set_ne (by omega), List.getElem?_set_ne (by omega), e0]
    · rw [List.getElem?_set_ne (by omega), List.getElem?_set_ne (by omega), e1]
theorem RowT.other {A : Option Addr} (h : RowT w lo hi A n c ts) {p : Addr} (hp : A.map (·.block) ≠ some p.block) (v : Value) : RowT (w.setCell p v) lo hi A n c ts :=
  h.beside (row := some p.block) ⟨rfl, rfl, rfl, by simp [World.setCell], fun i hi hne => Below.heap_setCell w p v i (by rintro rfl; exact hne rfl)⟩ (fun g hg => by cases hg; exact hp)
theorem RowT.cells (h : RowT w lo hi (some ⟨g, 0, none⟩) n c ts) {k : Nat} (hk : k < n) : w.cell? ⟨g, k * 2, none⟩ = some (.int .i64 (tv ts k)) ∧ w.cell? ⟨g, k * 2 + 1, none⟩ = some (.bool (tp ts k)) ∧ w.frozen? ⟨g, k * 2, none⟩ = false ∧ w.frozen? ⟨g, k * 2 + 1, none⟩ = false := by
  obtain ⟨cs, hR, hat⟩ := h.row
  obtain ⟨a0, a1⟩ := hat k hk
  obtain ⟨d0, f0⟩ := hR.cellAt (p := k * 2) (by omega)
  obtain ⟨d1, f1⟩ := hR.cellAt (p := k * 2 + 1) (by omega)
  exact ⟨d0.trans a0, d1.trans a1, f0, f1⟩
theorem RowT.form {A : Option Addr} (h : RowT w lo hi A n c ts) (hn : 0 < n) : ∃ g, A = some ⟨g, 0, none⟩ ∧ lo ≤ g ∧ g < hi ∧ g < w.heap.size := by
  obtain ⟨cs, hR, hat⟩ := h.row
  obtain ⟨g, rfl, hg⟩ := hR.form hn
  obtain ⟨h1, h2⟩ := hR.row_bd g rfl
  exact ⟨g, rfl, h1, h2, hg⟩
end
theorem PassR.exch {w : World} {lo hi ga gb n c m d : Nat} {ts us : List (Int × Bool)} (h : PassR w lo hi (some ⟨ga, 0, none⟩) n c (some ⟨gb, 0, none⟩) m d ts us) {k : Nat} (hk : k < n) (hk' : k < m) (v : Int) (p : Bool) (v' : Int) (p' : Bool) :
    PassR ((((w.setCell ⟨ga, k * 2, none⟩ (.int .i64 v)).setCell ⟨ga, k * 2 + 1, none⟩ (.bool p)).setCell ⟨gb, k * 2, none⟩ (.int .i64 v')).setCell ⟨gb, k * 2 + 1, none⟩ (.bool p')) lo hi (some ⟨ga, 0, none⟩) n c (some ⟨gb, 0, none⟩) m d (ts.set k (v, p)) (us.set k (v', p')) := by
  have hne : ga ≠ gb := fun e => h.ne ga rfl (by rw [e]; rfl)
  exact ⟨((h.a.store hk v p).other (by simpa using hne) _).other (by simpa using hne) _, ((h.b.other (by simpa using fun e : gb = ga => hne e.symm) _).other (by simpa using fun e : gb = ga => hne e.symm) _).store hk' v' p', h.ne⟩
set_option maxHeartbeats 4000000 in
theorem spec_exch (A B : Option Addr) (n c m d : Nat) (ts us : List (Int × Bool)) (k : Int) (hk : -9223372036854775808 ≤ k ∧ k ≤ 9223372036854775807) (w : World) (hI : Thr w A n ts) (hJ : Thr w B m us) :
    Calls Tryz.prog 114 #[.agg #[.slice A n c, .slice B m d], .int .i64 k] w (RetPC w (exj ts us k).1 (exj ts us k).2.1 (exj ts us k).2.2) := by
  cases hv : vpas ts us
  · have HX : Hid (exj ts us k = ([], [], 1)) := by show _ = _; simp [exj, hv]
    rw [HX.out]
    go_enter Tryz.func114, Tryz.ntmps114
    go_wp2_with fail
    (with_reducible refine (l06Ok_any _ A B n c m d ts us _ ⟨by first | (simp [World.setCell]; done) | (simp [World.setCell]; omega) | omega, by go_simp, by go_simp⟩ (hI.ext (by with_reducible (repeat (first | exact Ext.refl _ | apply Ext.drewN | apply Ext.drew | apply Ext.alloc | (refine Ext.set ?_ (by first | (simp; done) | (simp; omega) | omega) _) | (refine Ext.trans ?_ (by assumption)))))) (hJ.ext (by with_reducible (repeat (first | exact Ext.refl _ | apply Ext.drewN | apply Ext.drew | apply Ext.alloc | (refine Ext.set ?_ (by first | (simp; done) | (simp; omega) | omega) _) | (refine Ext.trans ?_ (by assumption))))))).mono ?_)
    rw [hv]
    rintro e w1 ⟨rfl, hx1⟩
    have hz1 := hx1.size
    (try simp at hz1)
    have q0 : w.heap.size + 1 < w1.heap.size := by omega
    have q00 : w.heap.size < w1.heap.size := by omega
    have q01 : w.heap.size + 1 < w1.heap.size + 1 := by omega
    have q02 : w.heap.size < w1.heap.size + 1 := by omega
    have q03 : w.heap.size < w1.heap.size + 1 + 1 := by omega
    have q04 : w.heap.size + 1 < w1.heap.size + 1 + 1 := by omega
    have k1 : ∀ o, w1.cell? ⟨w.heap.size + 1, o, none⟩ = _ := fun o => hx1.cells.1 _ o (by first | (simp; done) | (simp; omega) | omega)
    have f1 : ∀ o, w1.frozen? ⟨w.heap.size + 1, o, none⟩ = _ := fun o => hx1.cells.2 _ o (by first | (simp; done) | (simp; omega) | omega)
    have k0 : ∀ o, w1.cell? ⟨w.heap.size, o, none⟩ = _ := fun o => hx1.cells.1 _ o (by first | (simp; done) | (simp; omega) | omega)
    have hE1 : Ext w w1 := Ext.trans (by with_reducible (repeat (first | exact Ext.refl _ | apply Ext.drewN | apply Ext.drew | apply Ext.alloc | (refine Ext.set ?_ (by first | (simp; done) | (simp; omega) | omega) _) | (refine Ext.trans ?_ (by assumption))))) hx1
    clear hx1
    go_wp2
    exact bodyPost_ret (v := .tuple #[.agg #[.slice none 0 0, .slice none 0 0], .int .i64 1]) (by simp [results, Tryz.results114, go_sem, *]) rfl ⟨none, 0, 0, none, 0, 0, rfl, PassR.nil _ _ _, (by with_reducible (repeat (first | exact Ext.refl _ | apply Ext.drewN | apply Ext.drew | apply Ext.alloc | (refine Ext.set ?_ (by first | (simp; done) | (simp; omega) | omega) _) | (refine Ext.trans ?_ (by assumption)))))⟩
  · obtain ⟨g1, g2, g3, g4, g5⟩ := vpas_parts hv
    have l1 := hI.len
    have l2 := hJ.len
    obtain rfl : m = n := by omega
    rw [l1] at g1 g2 g4
    rw [l2] at g5
    have HB := Lib.hid (And.intro g4 g5)
    clear g3 g4 g5
    cases hr : btw k 0 ((m : Int) - 1)
    · have HX : Hid (exj ts us k = ([], [], 2)) := by show _ = _; simp [exj, hv, l1, hr]
      rw [HX.out]
      clear l1 l2
      go_enter Tryz.func114, Tryz.ntmps114
      go_wp2_with fail
      (with_reducible refine (l06Ok_any _ A B m c m d ts us _ ⟨by first | (simp [World.setCell]; done) | (simp [World.setCell]; omega) | omega, by go_simp, by go_simp⟩ (hI.ext (by with_reducible (repeat (first | exact Ext.refl _ | apply Ext.drewN | apply Ext.drew | apply Ext.alloc | (refine Ext.set ?_ (by first | (simp; done) | (simp; omega) | omega) _) | (refine Ext.trans ?_ (by assumption)))))) (hJ.ext (by with_reducible (repeat (first | exact Ext.refl _ | apply Ext.drewN | apply Ext.drew | apply Ext.alloc | (refine Ext.set ?_ (by first | (simp; done) | (simp; omega) | omega) _) | (refine Ext.trans ?_ (by assumption))))))).mono ?_)
      rw [hv]
      rintro e w1 ⟨rfl, hx1⟩
      have hz1 := hx1.size
      (try simp at hz1)
      have q0 : w.heap.size + 1 < w1.heap.size := by omega
      have q00 : w.heap.size < w1.heap.size := by omega
      have q01 : w.heap.size + 1 < w1.heap.size + 1 := by omega
      have q02 : w.heap.size < w1.heap.size + 1 := by omega
      have q03 : w.heap.size < w1.heap.size + 1 + 1 := by omega
      have q04 : w.heap.size + 1 < w1.heap.size + 1 + 1 := by omega
      have k1 : ∀ o, w1.cell? ⟨w.heap.size + 1, o, none⟩ = _ := fun o => hx1.cells.1 _ o (by first | (simp; done) | (simp; omega) | omega)
      have f1 : ∀ o, w1.frozen? ⟨w.heap.size + 1, o, none⟩ = _ := fun o => hx1.cells.2 _ o (by first | (simp; done) | (simp; omega) | omega)
      have k0 : ∀ o, w1.cell? ⟨w.heap.size, o, none⟩ = _ := fun o => hx1.cells.1 _ o (by first | (simp; done) | (simp; omega) | omega)
      have hE1 : Ext w w1 := Ext.trans (by with_reducible (repeat (first | exact Ext.refl _ | apply Ext.drewN | apply Ext.drew | apply Ext.alloc | (refine Ext.set ?_ (by first | (simp; done) | (simp; omega) | omega) _) | (refine Ext.trans ?_ (by assumption))))) hx1
      clear hx1
      go_wp2_with (go_at_call 29; (with_reducible refine (l00In_is _ _ _ _ hr _).mono ?_); rintro e w' ⟨rfl, rfl⟩)
      exact bodyPost_ret (v := .tuple #[.agg #[.slice none 0 0, .slice none 0 0], .int .i64 2]) (by simp [results, Tryz.results114, go_sem, *]) rfl ⟨none, 0, 0, none, 0, 0, rfl, PassR.nil _ _ _, (by with_reducible (repeat (first | exact Ext.refl _ | apply Ext.drewN | apply Ext.drew | apply Ext.alloc | (refine Ext.set ?_ (by first | (simp; done) | (simp; omega) | omega) _) | (refine Ext.trans ?_ (by assumption)))))⟩
    · have hr' := btw_iff.1 hr
      obtain ⟨i, rfl⟩ : ∃ i : Nat, k = i := ⟨k.toNat, by omega⟩
      have him : i < m := by omega
      have hii : (i : Int) < m := by omega
      obtain ⟨va, hva⟩ : ∃ v, tv ts i = v := ⟨_, rfl⟩
      obtain ⟨pa, hpa⟩ : ∃ p, tp ts i = p := ⟨_, rfl⟩
      obtain ⟨vb, hvb⟩ : ∃ v, tv us i = v := ⟨_, rfl⟩
      obtain ⟨pb, hpb⟩ : ∃ p, tp us i = p := ⟨_, rfl⟩
      have hba := HB.out.1 i him
      have hbb := HB.out.2 i him
      rw [hva] at hba
      rw [hvb] at hbb
      have HX : Hid (exj ts us (i : Int) = if va = 0 ∨ vb = 0 then ([], [], 6) else (ts.set i (vb, !pb), us.set i (va, !pa), 0)) := by
        show _ = _
        unfold exj
        rw [hv, if_pos rfl, l1, hr, if_pos rfl, Int.toNat_natCast, hva, hvb, hpa, hpb]
      clear l1 l2 hr'
      obtain ⟨ba, oa, hA, hla, hca⟩ := hI.at_ (by omega)
      obtain ⟨bb, ob, hB, hlb, hcb⟩ := hJ.at_ (by omega)
      subst hA hB
      obtain ⟨a0, a1⟩ := hca i him
      obtain ⟨b0, b1⟩ := hcb i him
      rw [hva] at a0
      rw [hpa] at a1
      rw [hvb] at b0
      rw [hpb] at b1
      clear hca hcb hva hpa hvb hpb
      by_cases hz : va = 0 ∨ vb = 0
      · have HX2 : Hid (exj ts us (i : Int) = ([], [], 6)) := by show _ = _; rw [HX.out, if_pos hz]
        rw [HX2.out]
        go_enter Tryz.func114, Tryz.ntmps114
        go_wp2_with fail
        (with_reducible refine (l06Ok_any _ (some ⟨ba, oa, none⟩) (some ⟨bb, ob, none⟩) m c m d ts us _ ⟨by first | (simp [World.setCell]; done) | (simp [World.setCell]; omega) | omega, by go_simp, by go_simp⟩ (hI.ext (by with_reducible (repeat (first | exact Ext.refl _ | apply Ext.drewN | apply Ext.drew | apply Ext.alloc | (refine Ext.set ?_ (by first | (simp; done) | (simp; omega) | omega) _) | (refine Ext.trans ?_ (by assumption)))))) (hJ.ext (by with_reducible (repeat (first | exact Ext.refl _ | apply Ext.drewN | apply Ext.drew | apply Ext.alloc | (refine Ext.set ?_ (by first | (simp; done) | (simp; omega) | omega) _) | (refine Ext.trans ?_ (by assumption))))))).mono ?_)
        rw [hv]
        rintro e w1 ⟨rfl, hx1⟩
        have hz1 := hx1.size
        (try simp at hz1)
        have q0 : w.heap.size + 1 < w1.heap.size := by omega
        have q00 : w.heap.size < w1.heap.size := by omega
        have q01 : w.heap.size + 1 < w1.heap.size + 1 := by omega
        have q02 : w.heap.size < w1.heap.size + 1 := by omega
        have q03 : w.heap.size < w1.heap.size + 1 + 1 := by omega
        have q04 : w.heap.size + 1 < w1.heap.size + 1 + 1 := by omega
        have k1 : ∀ o, w1.cell? ⟨w.heap.size + 1, o, none⟩ = _ := fun o => hx1.cells.1 _ o (by first | (simp; done) | (simp; omega) | omega)
        have f1 : ∀ o, w1.frozen? ⟨w.heap.size + 1, o, none⟩ = _ := fun o => hx1.cells.2 _ o (by first | (simp; done) | (simp; omega) | omega)
        have k0 : ∀ o, w1.cell? ⟨w.heap.size, o, none⟩ = _ := fun o => hx1.cells.1 _ o (by first | (simp; done) | (simp; omega) | omega)
        have hE1 : Ext w w1 := Ext.trans (by with_reducible (repeat (first | exact Ext.refl _ | apply Ext.drewN | apply Ext.drew | apply Ext.alloc | (refine Ext.set ?_ (by first | (simp; done) | (simp; omega) | omega) _) | (refine Ext.trans ?_ (by assumption))))) hx1
        clear hx1
        have a0' := hE1.cell hla a0
        have a1' := hE1.cell hla a1
        have b0' := hE1.cell hlb b0
        have b1' := hE1.cell hlb b1
        have la1 : ba < w1.heap.size := by omega
        have lb1 : bb < w1.heap.size := by omega
        have la2 : ba < w1.heap.size + 1 := by omega
        have lb2 : bb < w1.heap.size + 1 := by omega
        clear a0 a1 b0 b1
        by_cases hz1' : va = 0
        · subst hz1'
          go_wp2_with (go_at_call 29; (with_reducible refine (l00In_is _ _ _ _ hr _).mono ?_); rintro e w' ⟨rfl, rfl⟩)
          exact bodyPost_ret (v := .tuple #[.agg #[.slice none 0 0, .slice none 0 0], .int .i64 6]) (by simp [results, Tryz.results114, go_sem, *]) rfl ⟨none, 0, 0, none, 0, 0, rfl, PassR.nil _ _ _, (by with_reducible (repeat (first | exact Ext.refl _ | apply Ext.drewN | apply Ext.drew | apply Ext.alloc | (refine Ext.set ?_ (by first | (simp; done) | (simp; omega) | omega) _) | (refine Ext.trans ?_ (by assumption)))))⟩
        · obtain rfl : vb = 0 := by omega
          go_wp2_with (go_at_call 29; (with_reducible refine (l00In_is _ _ _ _ hr _).mono ?_); rintro e w' ⟨rfl, rfl⟩)
          exact bodyPost_ret (v := .tuple #[.agg #[.slice none 0 0, .slice none 0 0], .int .i64 6]) (by simp [results, Tryz.results114, go_sem, *]) rfl ⟨none, 0, 0, none, 0, 0, rfl, PassR.nil _ _ _, (by with_reducible (repeat (first | exact Ext.refl _ | apply Ext.drewN | apply Ext.drew | apply Ext.alloc | (refine Ext.set ?_ (by first | (simp; done) | (simp; omega) | omega) _) | (refine Ext.trans ?_ (by assumption)))))⟩
      · have HX2 : Hid (exj ts us (i : Int) = (ts.set i (vb, !pb), us.set i (va, !pa), 0)) := by show _ = _; rw [HX.out, if_neg hz]
        rw [HX2.out]
        have hz1' : ¬ va = 0 := fun h => hz (.inl h)
        have hz2' : ¬ vb = 0 := fun h => hz (.inr h)
        have hz1b : (va == 0) = false := beq_eq_false_iff_ne.2 hz1'
        have hz2b : (vb == 0) = false := beq_eq_false_iff_ne.2 hz2'
        clear hz hz1' hz2'
        go_enter Tryz.func114, Tryz.ntmps114
        go_wp2_with fail
        (with_reducible refine (l06Ok_any _ (some ⟨ba, oa, none⟩) (some ⟨bb, ob, none⟩) m c m d ts us _ ⟨by first | (simp [World.setCell]; done) | (simp [World.setCell]; omega) | omega, by go_simp, by go_simp⟩ (hI.ext (by with_reducible (repeat (first | exact Ext.refl _ | apply Ext.drewN | apply Ext.drew | apply Ext.alloc | (refine Ext.set ?_ (by first | (simp; done) | (simp; omega) | omega) _) | (refine Ext.trans ?_ (by assumption)))))) (hJ.ext (by with_reducible (repeat (first | exact Ext.refl _ | apply Ext.drewN | apply Ext.drew | apply Ext.alloc | (refine Ext.set ?_ (by first | (simp; done) | (simp; omega) | omega) _) | (refine Ext.trans ?_ (by assumption))))))).mono ?_)
        rw [hv]
        rintro e w1 ⟨rfl, hx1⟩
        have hz1 := hx1.size
        (try simp at hz1)
        have q0 : w.heap.size + 1 < w1.heap.size := by omega
        have q00 : w.heap.size < w1.heap.size := by omega
        have q01 : w.heap.size + 1 < w1.heap.size + 1 := by omega
        have q02 : w.heap.size < w1.heap.size + 1 := by omega
        have q03 : w.heap.size < w1.heap.size + 1 + 1 := by omega
        have q04 : w.heap.size + 1 < w1.heap.size + 1 + 1 := by omega
        have k1 : ∀ o, w1.cell? ⟨w.heap.size + 1, o, none⟩ = _ := fun o => hx1.cells.1 _ o (by first | (simp; done) | (simp; omega) | omega)
        have f1 : ∀ o, w1.frozen? ⟨w.heap.size + 1, o, none⟩ = _ := fun o => hx1.cells.2 _ o (by first | (simp; done) | (simp; omega) | omega)
        have k0 : ∀ o, w1.cell? ⟨w.heap.size, o, none⟩ = _ := fun o => hx1.cells.1 _ o (by first | (simp; done) | (simp; omega) | omega)
        have hE1 : Ext w w1 := Ext.trans (by with_reducible (repeat (first | exact Ext.refl _ | apply Ext.drewN | apply Ext.drew | apply Ext.alloc | (refine Ext.set ?_ (by first | (simp; done) | (simp; omega) | omega) _) | (refine Ext.trans ?_ (by assumption))))) hx1
        clear hx1
        have a0' := hE1.cell hla a0
        have a1' := hE1.cell hla a1
        have b0' := hE1.cell hlb b0
        have b1' := hE1.cell hlb b1
        have la1 : ba < w1.heap.size := by omega
        have lb1 : bb < w1.heap.size := by omega
        have la2 : ba < w1.heap.size + 1 := by omega
        have lb2 : bb < w1.heap.size + 1 := by omega
        go_wp2_with (go_at_call 29; (with_reducible refine (l00In_is _ _ _ _ hr _).mono ?_); rintro e w' ⟨rfl, rfl⟩)
        (with_reducible refine (l06Own_any w.heap.size (some ⟨ba, oa, none⟩) (some ⟨bb, ob, none⟩) m c m d ts us _ ⟨by first | (simp [World.setCell]; done) | (simp [World.setCell]; omega) | omega, by go_simp, by go_simp⟩ (hI.ext (by with_reducible (repeat (first | exact Ext.refl _ | apply Ext.drewN | apply Ext.drew | apply Ext.alloc | (refine Ext.set ?_ (by first | (simp; done) | (simp; omega) | omega) _) | (refine Ext.trans ?_ (by assumption)))))) (hJ.ext (by with_reducible (repeat (first | exact Ext.refl _ | apply Ext.drewN | apply Ext.drew | apply Ext.alloc | (refine Ext.set ?_ (by first | (simp; done) | (simp; omega) | omega) _) | (refine Ext.trans ?_ (by assumption)))))) (by omega) (by omega)).mono ?_)
        rintro e w2 ⟨A1, c1, B1, d1, rfl, R, hx2⟩
        have HR : Hid (PassR w2 (w1.heap.size + 1 + 1) w2.heap.size A1 m c1 B1 m d1 ts us) := by show PassR _ _ _ _ _ _ _ _ _ _ _; simpa using R
        clear R
        have hz2 : w1.heap.size + 1 + 1 ≤ w2.heap.size := by simpa using hx2.size
        obtain ⟨ga, rfl, ga1, ga2, ga3⟩ := HR.out.a.form (by omega)
        obtain ⟨gb, rfl, gb1, gb2, gb3⟩ := HR.out.b.form (by omega)
        have hne : ¬ ga = gb := fun e => HR.out.ne ga rfl (by rw [e]; rfl)
        have hne2 : ¬ gb = ga := fun e => hne e.symm
        obtain ⟨ca0, ca1, fa0, fa1⟩ := HR.out.a.cells him
        obtain ⟨cb0, cb1, fb0, fb1⟩ := HR.out.b.cells him
        have m1 : ∀ o, w2.cell? ⟨w.heap.size + 1, o, none⟩ = _ := fun o => hx2.cells.1 _ o (by first | (simp; done) | (simp; omega) | omega)
        have n1 : ∀ o, w2.frozen? ⟨w.heap.size + 1, o, none⟩ = _ := fun o => hx2.cells.2 _ o (by first | (simp; done) | (simp; omega) | omega)
        have ma : ∀ o, w2.cell? ⟨w1.heap.size, o, none⟩ = _ := fun o => hx2.cells.1 _ o (by first | (simp; done) | (simp; omega) | omega)
        have mb : ∀ o, w2.cell? ⟨w1.heap.size + 1, o, none⟩ = _ := fun o => hx2.cells.1 _ o (by first | (simp; done) | (simp; omega) | omega)
        have r1 : w.heap.size + 1 < w2.heap.size := by omega
        have r2 : w1.heap.size < w2.heap.size := by omega
        have r3 : w1.heap.size + 1 < w2.heap.size := by omega
        have s1 : w.heap.size + 1 < ga := by omega
        have s2 : w1.heap.size < ga := by omega
        have s3 : w1.heap.size + 1 < ga := by omega
        have t1 : w.heap.size + 1 < gb := by omega
        have t2 : w1.heap.size < gb := by omega
        have t3 : w1.heap.size + 1 < gb := by omega
        have hE2 : Ext w w2 := Ext.trans (by with_reducible (repeat (first | exact Ext.refl _ | apply Ext.drewN | apply Ext.drew | apply Ext.alloc | (refine Ext.set ?_ (by first | (simp; done) | (simp; omega) | omega) _) | (refine Ext.trans ?_ (by assumption))))) hx2
        clear hx2
        go_wp2
        refine bodyPost_ret (v := .tuple #[.agg #[.slice (some ⟨ga, 0, none⟩) m c1, .slice (some ⟨gb, 0, none⟩) m d1], .int .i64 0]) (by simp [results, Tryz.results114, go_sem, *]) rfl ⟨_, _, _, _, _, _, rfl, ?_, (by with_reducible (repeat (first | exact Ext.refl _ | apply Ext.drewN | apply Ext.drew | apply Ext.alloc | (refine Ext.set ?_ (by first | (simp; done) | (simp; omega) | omega) _) | (refine Ext.trans ?_ (by assumption)))))⟩
        exact ((((HR.out.exch him him _ _ _ _).far (p := ⟨w.heap.size + 1, 0, none⟩) (.inl (by simp; omega)) _).far (p := ⟨w.heap.size + 1, 1, none⟩) (.inl (by simp; omega)) _).ext (by with_reducible (repeat (first | exact Ext.refl _ | apply Ext.drewN | apply Ext.drew | apply Ext.alloc | (refine Ext.set ?_ (by first | (simp; done) | (simp; omega) | omega) _) | (refine Ext.trans ?_ (by assumption)))))).wide (by omega) (by simp [World.setCell])
end Go.Proofs.YtbihbhdaenhdoaaGreat

namespace Go.Proofs.YtbihbhdaenhdoaaGreat
set_option linter.unusedVariables false
set_option linter.unusedSimpArgs false
open Go.ChangeShapes Go.WideShapes Go.ChangeAt Go.RowKit Go.Joins Go.Deep

/-- A pattern drawn so far: the box OB tells it, the block behind w is the result's. -/
structure PDr (w0 w wr : World) (g : Nat) (A : Option Addr) (n c : Nat) (xs : List Int) (top OB N : Nat) (A1 : Option Addr) (c1 : Nat) (B1 : Option Addr) (d1 : Nat) (ts us : List (Int × Bool)) : Prop where
  k0 : wr.cell? ⟨OB, 0, none⟩ = some (.slice A1 N c1)
  k1 : wr.cell? ⟨OB, 1, none⟩ = some (.slice B1 N d1)
  f : ∀ o, wr.frozen? ⟨OB, o, none⟩ = false
  P : PassR wr (w.heap.size + 1) wr.heap.size A1 N c1 B1 N d1 ts us
  neA : A1.map (·.block) ≠ some OB
  neB : B1.map (·.block) ≠ some OB
  gt : w.heap.size < OB
  lt : OB < wr.heap.size
  r0 : wr.cell? ⟨w.heap.size, 0, none⟩ = some (.slice none 0 0)
  r1 : wr.cell? ⟨w.heap.size, 1, none⟩ = some (.slice none 0 0)
  rf : ∀ o, wr.frozen? ⟨w.heap.size, o, none⟩ = false
  S : Srd w0 wr g A n c xs top
  G : w.grownBy wr (some g)
  gl : g < w.heap.size
section
variable {w0 w wr w' : World} {g n c top OB N c1 d1 : Nat} {A A1 B1 : Option Addr} {xs : List Int} {ts us : List (Int × Bool)}
theorem grown_frozen {w w' : World} {g b : Nat} (k : w.grownBy w' (some g)) (hb : b < w.heap.size) (hne : b ≠ g) (o : Nat) : w'.frozen? ⟨b, o, none⟩ = w.frozen? ⟨b, o, none⟩ :=
  World.frozen?_of_block (k.block b hb (fun e => hne (by cases e; rfl)))
theorem PDr.more (h : PDr w0 w wr g A n c xs top OB N A1 c1 B1 d1 ts us) {top' : Nat} (k : top ≤ top') : PDr w0 w wr g A n c xs top' OB N A1 c1 B1 d1 ts us :=
  ⟨h.k0, h.k1, h.f, h.P, h.neA, h.neB, h.gt, h.lt, h.r0, h.r1, h.rf, h.S.more k, h.G, h.gl⟩
theorem PDr.ext (h : PDr w0 w wr g A n c xs top OB N A1 c1 B1 d1 ts us) (k : Ext wr w') : PDr w0 w w' g A n c xs top OB N A1 c1 B1 d1 ts us :=
  have hz := k.size
  have hl := h.lt
  have hg := h.gt
  ⟨k.cell hl h.k0, k.cell hl h.k1, fun o => (k.cells.2 _ o hl).trans (h.f o), (h.P.ext k).wide (Nat.le_refl _) hz, h.neA, h.neB, hg, by omega, k.cell (by omega) h.r0, k.cell (by omega) h.r1, fun o => (k.cells.2 _ o (by omega)).trans (h.rf o), h.S.after k, grown_exts h.G k, h.gl⟩
theorem PDr.drawn (h : PDr w0 w wr g A n c xs top OB N A1 c1 B1 d1 ts us) {top' : Nat} (hs : Srd w0 w' g A n c xs top') (k : wr.grownBy w' (some g)) : PDr w0 w w' g A n c xs top' OB N A1 c1 B1 d1 ts us :=
  have hz := k.size
  have hl := h.lt
  have hg := h.gt
  have hgl := h.gl
  ⟨(grown_cell k hl (by omega) _).trans h.k0, (grown_cell k hl (by omega) _).trans h.k1, fun o => (grown_frozen k hl (by omega) o).trans (h.f o),
    ⟨(h.P.a.beside k (fun b hb e => by cases hb; have := h.P.a.row_bd _ e; omega)).wide (Nat.le_refl _) hz, (h.P.b.beside k (fun b hb e => by cases hb; have := h.P.b.row_bd _ e; omega)).wide (Nat.le_refl _) hz, h.P.ne⟩,
    h.neA, h.neB, hg, by omega, (grown_cell k (by omega) (by omega) _).trans h.r0, (grown_cell k (by omega) (by omega) _).trans h.r1, fun o => (grown_frozen k (by omega) (by omega) o).trans (h.rf o), hs, grown_trans h.G k, hgl⟩
theorem PDr.put (h : PDr w0 w wr g A n c xs top OB N A1 c1 B1 d1 ts us) {A2 B2 : Option Addr} {c2 d2 : Nat} {ts2 us2 : List (Int × Bool)} (k : PassR wr (OB + 1) wr.heap.size A2 N c2 B2 N d2 ts2 us2) :
    PDr w0 w ((wr.setCell ⟨OB, 0, none⟩ (.slice A2 N c2)).setCell ⟨OB, 1, none⟩ (.slice B2 N d2)) g A n c xs top OB N A2 c2 B2 d2 ts2 us2 := by
  have hl := h.lt
  have hg := h.gt
  have hgl := h.gl
  have hsz : ((wr.setCell ⟨OB, 0, none⟩ (.slice A2 N c2)).setCell ⟨OB, 1, none⟩ (.slice B2 N d2)).heap.size = wr.heap.size := by simp [World.setCell]
  refine ⟨?_, ?_, fun o => ?_, ?_, fun e => ?_, fun e => ?_, hg, by rw [hsz]; exact hl, ?_, ?_, fun o => ?_, ?_, ?_, hgl⟩
  · rw [World.cell?_setCell_other _ _ _ _ (fun e => by cases e)]
    exact World.cell?_setCell_same _ _ _ h.k0
  · obtain ⟨v, hv⟩ : ∃ v, (wr.setCell ⟨OB, 0, none⟩ (.slice A2 N c2)).cell? ⟨OB, 1, none⟩ = some v := ⟨_, by rw [World.cell?_setCell_other _ _ _ _ (fun e => by cases e)]; exact h.k1⟩
    exact World.cell?_setCell_same _ _ _ hv
  · rw [World.frozen?_setCell, World.frozen?_setCell]
    exact h.f o
  · rw [hsz]
    exact ((k.far (p := ⟨OB, 0, none⟩) (.inl (by show OB < OB + 1; omega)) _).far (p := ⟨OB, 1, none⟩) (.inl (by show OB < OB + 1; omega)) _).wide (by omega) (Nat.le_refl _)
  · have := (k.a.row_bd _ e).1; omega
  · have := (k.b.row_bd _ e).1; omega
  · rw [World.cell?_setCell_other _ _ _ _ (fun e => by cases e <;> omega), World.cell?_setCell_other _ _ _ _ (fun e => by cases e <;> omega)]
    exact h.r0
  · rw [World.cell?_setCell_other _ _ _ _ (fun e => by cases e <;> omega), World.cell?_setCell_other _ _ _ _ (fun e => by cases e <;> omega)]
    exact h.r1
  · rw [World.frozen?_setCell, World.frozen?_setCell]
    exact h.rf o
  · exact (h.S.put (by show g < OB; omega) _).put (by show g < OB; omega) _
  · exact grown_put (grown_put h.G (by show w.heap.size ≤ OB; omega) _) (by show w.heap.size ≤ OB; omega) _
end
theorem exj_len {ts us : List (Int × Bool)} {k : Int} (h : (exj ts us k).2.2 = 0) : (exj ts us k).1.length = ts.length ∧ (exj ts us k).2.1.length = us.length := by
  unfold exj at h ⊢
  split at h
  · split at h
    · split at h
      · simp at h
      · rename_i h1 h2 h3
        rw [if_pos h1, if_pos h2, if_neg h3]
        simp
    · simp at h
  · simp at h
/-- What a step leaves. -/
def DStep (w0 w : World) (g : Nat) (A : Option Addr) (n c : Nat) (xs : List Int) (top OB N : Nat) (A1 : Option Addr) (c1 : Nat) (B1 : Option Addr) (d1 : Nat) (ts us : List (Int × Bool)) (p7 c8 : Value) (wx : World) : Prop :=
  ∃ (NB : Nat) (r : Int) (A2 : Option Addr) (n2 c2 : Nat) (B2 : Option Addr) (m2 d2 : Nat), p7 = .pointer (some ⟨NB, 0, none⟩) ∧ c8 = .int .i64 r ∧ PDr w0 w wx g A n c xs top OB N A1 c1 B1 d1 ts us ∧
    wx.cell? ⟨NB, 0, none⟩ = some (.slice A2 n2 c2) ∧ wx.cell? ⟨NB, 1, none⟩ = some (.slice B2 m2 d2) ∧ OB < NB ∧ NB < wx.heap.size ∧ (r = 0 → n2 = N ∧ m2 = N ∧ ∃ ts2 us2, PassR wx (OB + 1) wx.heap.size A2 n2 c2 B2 m2 d2 ts2 us2)
/-- A drawn pattern. -/
def DrawnP (w0 w : World) (g : Nat) (A : Option Addr) (n c : Nat) (xs : List Int) (top : Nat) (e : Ending) (w' : World) : Prop :=
  ∃ (N : Nat) (A1 : Option Addr) (c1 : Nat) (B1 : Option Addr) (d1 : Nat) (ts us : List (Int × Bool)), e = .returned (.agg #[.slice A1 N c1, .slice B1 N d1]) ∧ (1 ≤ N ∧ N ≤ 5) ∧ PassR w' w.heap.size w'.heap.size A1 N c1 B1 N d1 ts us ∧ Srd w0 w' g A n c xs top ∧ w.grownBy w' (some g)
set_option maxHeartbeats 8000000 in
set_option maxRecDepth 100000 in
theorem l06Draw_any (w0 w : World) (g : Nat) (A : Option Addr) (n c : Nat) (xs : List Int) (top : Nat) (h : Srd w0 w g A n c xs top) (ht : top ≤ 600000000) :
    Calls Tryz.prog 84 #[.pointer (some ⟨g, 0, none⟩)] w (DrawnP w0 w g A n c xs (top + 200)) := by
  have hlt := h.lt
  have hS0 := h.after ((Ext.refl w).alloc (.cells #[.slice none 0 0, .slice none 0 0] 31))
  have hG0 := grown_new (World.grownBy.refl w (some g)) (.cells #[.slice none 0 0, .slice none 0 0] 31)
  go_enter Tryz.func84, Tryz.ntmps84
  go_wp2_with fail
  (with_reducible refine (pick_any 5 w0 _ g A n c xs top hS0 (by omega)).mono ?_)
  rintro e w1 ⟨x, rfl, hx, hs1, hg1⟩
  obtain ⟨N, hN⟩ : ∃ N : Nat, 1 + x = N := ⟨(1 + x).toNat, by omega⟩
  have hNb : 1 ≤ N ∧ N ≤ 5 := by omega
  have hz1 : w.heap.size + 1 ≤ w1.heap.size := by have := hg1.size; simp at this; omega
  have a0 : w1.cell? ⟨w.heap.size, 0, none⟩ = some (.slice none 0 0) := (grown_cell hg1 (by simp) (by omega) _).trans (by go_simp)
  have a1 : w1.cell? ⟨w.heap.size, 1, none⟩ = some (.slice none 0 0) := (grown_cell hg1 (by simp) (by omega) _).trans (by go_simp)
  have a2 : ∀ o, w1.frozen? ⟨w.heap.size, o, none⟩ = false := fun o => (grown_frozen hg1 (by simp) (by omega) o).trans (by go_simp)
  have hG1 := grown_trans hG0 hg1
  clear hg1 hS0 hG0
  go_wp2_with fail
  (with_reducible refine (l04Site_any N hNb w0 _ g A n c xs _ hs1 (by omega)).mono ?_)
  rintro e w2 ⟨B, d, ys, rfl, hown2, hvy, hs2, hg2⟩
  have hlt1 := hs1.lt
  have hz2 := hg2.size
  have hIy : Ints w2 B N ys := Ints.of_own hown2 (by omega) (fun y hy => by
    obtain ⟨i, hi, e⟩ := List.getElem_of_mem hy
    have hv := hvy
    unfold vpat at hv
    rw [Bool.and_eq_true] at hv
    have := (thr_iff.1 hv.1).1 i hi
    rw [List.getElem?_eq_getElem hi] at this
    simp at this
    omega)
  have hBg : ∀ a, B = some a → a.block ≠ g := fun a ha => by have := (World.ownsRow.lt hown2 a.block (by rw [ha]; rfl)).1; omega
  have hG2 := grown_trans hG1 hg2
  go_wp2_with fail
  (with_reducible refine (l04Site_any N hNb w0 _ g A n c xs _ hs2 (by omega)).mono ?_)
  rintro e w3 ⟨C, f, zs, rfl, hown3, hvz, hs3, hg3⟩
  have hz3 := hg3.size
  have hIz : Ints w3 C N zs := Ints.of_own hown3 (by omega) (fun y hy => by
    obtain ⟨i, hi, e⟩ := List.getElem_of_mem hy
    have hv := hvz
    unfold vpat at hv
    rw [Bool.and_eq_true] at hv
    have := (thr_iff.1 hv.1).1 i hi
    rw [List.getElem?_eq_getElem hi] at this
    simp at this
    omega)
  have hIy3 : Ints w3 B N ys := ⟨hIy.len, hIy.small, hIy.bds, fun hn => by
    obtain ⟨b, off, e, hb, hc⟩ := hIy.at_ hn
    exact ⟨b, off, e, Nat.lt_of_lt_of_le hb hz3, fun i hi => (grown_cell hg3 hb (hBg _ e) _).trans (hc i hi)⟩⟩
  have hG3 := grown_trans hG2 hg3
  have b0 : w3.cell? ⟨w.heap.size, 0, none⟩ = some (.slice none 0 0) := (grown_cell hg3 (by omega) (by omega) _).trans ((grown_cell hg2 (by omega) (by omega) _).trans a0)
  have b1 : w3.cell? ⟨w.heap.size, 1, none⟩ = some (.slice none 0 0) := (grown_cell hg3 (by omega) (by omega) _).trans ((grown_cell hg2 (by omega) (by omega) _).trans a1)
  have b2 : ∀ o, w3.frozen? ⟨w.heap.size, o, none⟩ = false := fun o => (grown_frozen hg3 (by omega) (by omega) o).trans ((grown_frozen hg2 (by omega) (by omega) o).trans (a2 o))
  clear hown2 hown3 hG1 hG2 hs1 hs2 hg2 hg3 hIy hBg a0 a1 a2
  go_wp2_with fail
  (with_reducible refine (TogetherOf_any _ _ N _ _ ys zs _ hIy3 hIz ⟨hNb.1, by omega⟩ hvy hvz).mono ?_)
  rintro e w4 ⟨A1, c1, B1, d1, rfl, R, hx4⟩
  have hz4 := hx4.size
  have H0 : Hid (PDr w0 w (w4.alloc (.cells #[.slice A1 N c1, .slice B1 N d1] 31)) g A n c xs (top + 122) w4.heap.size N A1 c1 B1 d1 (sf ys) (sf zs)) := by
    have hxa : Ext w4 (w4.alloc (.cells #[.slice A1 N c1, .slice B1 N d1] 31)) := (Ext.refl _).alloc _
    refine ⟨by go_simp, by go_simp, fun o => by go_simp, (R.ext hxa).wide (by omega) hxa.size, fun e => ?_, fun e => ?_, by omega, by simp, hxa.cell (by omega) (hx4.cell (by omega) b0), hxa.cell (by omega) (hx4.cell (by omega) b1), fun o => (hxa.cells.2 _ o (by omega)).trans ((hx4.cells.2 _ o (by omega)).trans (b2 o)), ((hs3.after hx4).after hxa).more (by omega), grown_exts (grown_exts hG3 hx4) hxa, hlt⟩
    · have := (R.a.row_bd _ e).2; omega
    · have := (R.b.row_bd _ e).2; omega
  clear hIy3 hIz hvy hvz hs3 hG3 b0 b1 b2 R
  go_wp2_with fail
  (with_reducible refine (pick_any 5 w0 _ g A n c xs _ H0.out.S (by omega)).mono ?_)
  rintro e w5 ⟨x5, rfl, hx5, hs5, hg5⟩
  obtain ⟨j0, rfl⟩ : ∃ q : Nat, x5 = q := ⟨x5.toNat, by omega⟩
  have H1 := Lib.hid (H0.out.drawn hs5 hg5)
  clear hs5 hg5 H0
  go_wp2
  go_loopw [6, 7, 8] (fun i _ _ wr => ∃ (j : Nat) (A1 : Option Addr) (c1 : Nat) (B1 : Option Addr) (d1 : Nat) (ts us : List (Int × Bool)), j ≤ 4 ∧ i = .int .i64 j ∧ Hid (PDr w0 w wr g A n c xs (top + 124 + 2 * (4 - j)) w4.heap.size N A1 c1 B1 d1 ts us)) (fun i _ _ _ => (intOf i).toNat)
  case atStart => exact ⟨j0, _, _, _, _, _, _, by omega, rfl, H1.out.more (by omega)⟩
  case round =>
    obtain ⟨j, A1, c1, B1, d1, ts, us, hj, rfl, H⟩ := hrel
    clear H1
    have o0 := H.out.k0
    have o1 := H.out.k1
    have olt := H.out.lt
    have ogt := H.out.gt
    have ogl := H.out.gl
    by_cases hj0 : 0 < j
    · have hji : (0 : Int) < j := by omega
      go_upto_region 6 with fail
      go_cut [7, 8] from 28 to 35 (fun p7 c8 wx => DStep w0 w g A n c xs (top + 124 + 2 * (4 - j) + 2) w4.heap.size N A1 c1 B1 d1 ts us p7 c8 wx)
      case first =>
        go_region_law (first | (go_simp; go_at_call 20; (with_reducible refine (pick_any N w0 _ g A n c xs _ ((H.out.ext (by with_reducible (repeat (first | exact Ext.refl _ | apply Ext.drewN | apply Ext.drew | apply Ext.alloc | (refine Ext.set ?_ (by first | (simp; done) | (simp; omega) | omega) _) | (refine Ext.trans ?_ (by assumption)))))).S) (by omega)).mono ?_); rintro e w6 ⟨x6, rfl, hx6, hs6, hg6⟩; have hgw := grown_trans (grown_exts (World.grownBy.refl wr (some g)) (by with_reducible (repeat (first | exact Ext.refl _ | apply Ext.drewN | apply Ext.drew | apply Ext.alloc | (refine Ext.set ?_ (by first | (simp; done) | (simp; omega) | omega) _) | (refine Ext.trans ?_ (by assumption)))))) hg6; have H6 := Lib.hid (H.out.drawn hs6 hgw); have p0 := H6.out.k0; have p1 := H6.out.k1; have p2 := H6.out.lt; (try have kz0 : w6.cell? ⟨wr.heap.size, 0, none⟩ = some (.slice none 0 0) := (grown_cell hg6 (by first | (simp; done) | (simp; omega) | omega) (by omega) _).trans (by go_simp)); (try have kz1 : w6.cell? ⟨wr.heap.size, 1, none⟩ = some (.slice none 0 0) := (grown_cell hg6 (by first | (simp; done) | (simp; omega) | omega) (by omega) _).trans (by go_simp)); (try have kz2 : ∀ o, w6.frozen? ⟨wr.heap.size, o, none⟩ = false := fun o => (grown_frozen hg6 (by first | (simp; done) | (simp; omega) | omega) (by omega) o).trans (by go_simp)); (try have kz3 : wr.heap.size < w6.heap.size := Nat.lt_of_lt_of_le (by first | (simp; done) | (simp; omega) | omega) hg6.size)) | (go_simp; go_at_call 114; (with_reducible refine (spec_exch _ _ N _ N _ ts us x6 (by omega) _ (((H6.out.ext (by with_reducible (repeat (first | exact Ext.refl _ | apply Ext.drewN | apply Ext.drew | apply Ext.alloc | (refine Ext.set ?_ (by first | (simp; done) | (simp; omega) | omega) _) | (refine Ext.trans ?_ (by assumption)))))).P.a.thr (by omega))) ((H6.out.ext (by with_reducible (repeat (first | exact Ext.refl _ | apply Ext.drewN | apply Ext.drew | apply Ext.alloc | (refine Ext.set ?_ (by first | (simp; done) | (simp; omega) | omega) _) | (refine Ext.trans ?_ (by assumption)))))).P.b.thr (by omega))).mono ?_); rintro e w7 ⟨A2, n2, c2, B2, m2, d2, rfl, R2, hx7⟩; have hE7 : Ext w6 w7 := Ext.trans (by with_reducible (repeat (first | exact Ext.refl _ | apply Ext.drewN | apply Ext.drew | apply Ext.alloc | (refine Ext.set ?_ (by first | (simp; done) | (simp; omega) | omega) _) | (refine Ext.trans ?_ (by assumption))))) hx7; have hg7 := grown_exts hgw hE7; have hs7 := hs6.after hE7; (try have ky00 : w7.cell? ⟨w6.heap.size, 0, none⟩ = some (.slice none 0 0) := hx7.cell (by first | (simp; done) | (simp; omega) | omega) (by go_simp)); (try have ky01 : w7.cell? ⟨w6.heap.size, 1, none⟩ = some (.slice none 0 0) := hx7.cell (by first | (simp; done) | (simp; omega) | omega) (by go_simp)); (try have ky02 : ∀ o, w7.frozen? ⟨w6.heap.size, o, none⟩ = false := fun o => (hx7.cells.2 _ o (by first | (simp; done) | (simp; omega) | omega)).trans (by go_simp)); (try have ky03 : w6.heap.size < w7.heap.size := Nat.lt_of_lt_of_le (by first | (simp; done) | (simp; omega) | omega) hx7.size); (try have ky10 : w7.cell? ⟨wr.heap.size, 0, none⟩ = some (.slice none 0 0) := hx7.cell (by first | (simp; done) | (simp; omega) | omega) (by go_simp)); (try have ky11 : w7.cell? ⟨wr.heap.size, 1, none⟩ = some (.slice none 0 0) := hx7.cell (by first | (simp; done) | (simp; omega) | omega) (by go_simp)); (try have ky12 : ∀ o, w7.frozen? ⟨wr.heap.size, o, none⟩ = false := fun o => (hx7.cells.2 _ o (by first | (simp; done) | (simp; omega) | omega)).trans (by go_simp)); (try have ky13 : wr.heap.size < w7.heap.size := Nat.lt_of_lt_of_le (by first | (simp; done) | (simp; omega) | omega) hx7.size)))
        all_goals
          have hl1 := H.out.P.a.len
          have hl2 := H.out.P.b.len
          have hz6 := hgw.size
          have hz7 := hE7.size
          have hla := R2.a.len
          have hlb := R2.b.len
          go_wp2_with fail
          go_meet
          refine ⟨_, _, A2, n2, c2, B2, m2, d2, rfl, rfl, H.out.drawn ?_ ?_, ?_, ?_, ?_, ?_, fun hr => ⟨?_, ?_, (exj ts us x6).1, (exj ts us x6).2.1, ?_⟩⟩
          · first | exact (hs7.put (by first | (show g < wr.heap.size; omega) | (show g < w6.heap.size; omega)) _).put (by first | (show g < wr.heap.size; omega) | (show g < w6.heap.size; omega)) _ | exact hs7.after (by with_reducible (repeat (first | exact Ext.refl _ | apply Ext.drewN | apply Ext.drew | apply Ext.alloc | (refine Ext.set ?_ (by first | (simp; done) | (simp; omega) | omega) _) | (refine Ext.trans ?_ (by assumption)))))
          · first | exact grown_put (grown_put hg7 (by first | (show wr.heap.size ≤ wr.heap.size; omega) | (show wr.heap.size ≤ w6.heap.size; omega)) _) (by first | (show wr.heap.size ≤ wr.heap.size; omega) | (show wr.heap.size ≤ w6.heap.size; omega)) _ | exact grown_exts hg7 (by with_reducible (repeat (first | exact Ext.refl _ | apply Ext.drewN | apply Ext.drew | apply Ext.alloc | (refine Ext.set ?_ (by first | (simp; done) | (simp; omega) | omega) _) | (refine Ext.trans ?_ (by assumption)))))
          · go_simp
          · go_simp
          · omega
          · exact (by first | (simp [World.setCell]; done) | (simp [World.setCell]; omega) | omega)
          · have := (exj_len hr).1; omega
          · have := (exj_len hr).2; omega
          · first | exact ((R2.far (.inl (by first | (simp [World.setCell]; done) | (simp [World.setCell]; omega) | omega)) _).far (.inl (by first | (simp [World.setCell]; done) | (simp [World.setCell]; omega) | omega)) _).wide (by first | (simp [World.setCell]; done) | (simp [World.setCell]; omega) | omega) (by first | (simp [World.setCell]; done) | (simp [World.setCell]; omega) | omega) | exact (R2.ext (by with_reducible (repeat (first | exact Ext.refl _ | apply Ext.drewN | apply Ext.drew | apply Ext.alloc | (refine Ext.set ?_ (by first | (simp; done) | (simp; omega) | omega) _) | (refine Ext.trans ?_ (by assumption)))))).wide (by first | (simp [World.setCell]; done) | (simp [World.setCell]; omega) | omega) (by first | (simp [World.setCell]; done) | (simp [World.setCell]; omega) | omega)
      case rest =>
        obtain ⟨NB, r, A2, n2, c2, B2, m2, d2, rfl, rfl, H2, e0, e1, hn1, hn2, hr⟩ := hcut
        clear o0 o1 olt H
        have H := Lib.hid H2
        have HR := Lib.hid hr
        have o0 := H.out.k0
        have o1 := H.out.k1
        have of0 := H.out.f
        have olt := H.out.lt
        clear H2 hr
        by_cases hr0 : r = 0
        · obtain ⟨hA, hB, ts2, us2, hP⟩ := HR.out hr0
          subst hr0
          subst hA
          obtain rfl := hB
          have HN := Lib.hid (H.out.put hP)
          clear hP
          go_wp2
          go_roundw
          case rel => exact ⟨j - 1, _, _, _, _, _, _, by omega, by rw [show ((j - 1 : Nat) : Int) = (j : Int) - 1 by omega], HN.out.more (by omega)⟩
          case measure => simp [intOf]; omega
        · have hrb : (r == 0) = false := beq_eq_false_iff_ne.2 hr0
          clear hr0
          go_wp2
          go_roundw
          case rel => exact ⟨j - 1, _, _, _, _, _, _, by omega, by rw [show ((j - 1 : Nat) : Int) = (j : Int) - 1 by omega], H.out.more (by omega)⟩
          case measure => simp [intOf]; omega
    · have hji : ¬ (0 : Int) < j := by omega
      have r0 := H.out.r0
      have r1 := H.out.r1
      have rf := H.out.rf
      have rl : w.heap.size < wr.heap.size := by omega
      have HT : Hid (∀ u v : Value, DrawnP w0 w g A n c xs (top + 200) (.returned (.agg #[.slice A1 N c1, .slice B1 N d1])) ((wr.setCell ⟨w.heap.size, 0, none⟩ u).setCell ⟨w.heap.size, 1, none⟩ v)) := fun u v =>
        ⟨N, A1, c1, B1, d1, ts, us, rfl, hNb, ((H.out.P.far (p := ⟨w.heap.size, 0, none⟩) (.inl (by show w.heap.size < w.heap.size + 1; omega)) u).far (p := ⟨w.heap.size, 1, none⟩) (.inl (by show w.heap.size < w.heap.size + 1; omega)) v).wide (by omega) (by simp [World.setCell]), ((H.out.S.put (by show g < w.heap.size; omega) _).put (by show g < w.heap.size; omega) _).more (by omega), grown_put (grown_put H.out.G (by show w.heap.size ≤ w.heap.size; omega) _) (by show w.heap.size ≤ w.heap.size; omega) _⟩
      go_wp2
      exact bodyPost_ret (v := .agg #[.slice A1 N c1, .slice B1 N d1]) (by simp [results, Tryz.results84, go_sem, *]) rfl (HT.out _ _)
end Go.Proofs.YtbihbhdaenhdoaaGreat
