/- ExchangePasses by the program and the reference. No condition but the stated bounds. -/
import Derived.Test.YtlalaomimfdepaaThr8
namespace Go.Proofs.Ytlalaomimfdepaa
set_option linter.unusedVariables false
set_option linter.unusedSimpArgs false
open Go.ChangeShapes Go.WideShapes Go.ChangeAt Go.RowKit Go.Joins Go.Deep

/-- The pattern of which both throws at a beat land at each other's place. -/
def exj (ts us : List (Int × Bool)) (k : Int) : List (Int × Bool) × List (Int × Bool) × Int :=
  if vpas ts us then
    if btw k 0 ((ts.length : Int) - 1) then
      if tv ts k.toNat = 0 ∨ tv us k.toNat = 0 then ([], [], 6)
      else (ts.set k.toNat (tv us k.toNat, !tp us k.toNat), us.set k.toNat (tv ts k.toNat, !tp ts k.toNat), 0)
    else ([], [], 2)
  else ([], [], 1)
theorem exj_bd {ts us ys zs : List (Int × Bool)} {k r : Int} (h : exj ts us k = (ys, zs, r)) : ys.length ≤ 1048576 ∧ zs.length ≤ 1048576 := by
  unfold exj at h
  split at h
  · obtain ⟨g1, g2, g3, -, -⟩ := vpas_parts (by assumption)
    split at h
    · split at h
      · simp only [Prod.mk.injEq] at h
        obtain ⟨rfl, rfl, -⟩ := h
        simp
      · simp only [Prod.mk.injEq] at h
        obtain ⟨rfl, rfl, -⟩ := h
        simp
        omega
    · simp only [Prod.mk.injEq] at h
      obtain ⟨rfl, rfl, -⟩ := h
      simp
  · simp only [Prod.mk.injEq] at h
    obtain ⟨rfl, rfl, -⟩ := h
    simp
theorem tv_set {ts : List (Int × Bool)} {k i : Nat} {v : Int} {p : Bool} (hk : k < ts.length) : tv (ts.set k (v, p)) i = if i = k then v else tv ts i := by
  unfold tv
  rw [List.getElem?_set]
  split
  · rename_i h; subst h; simp [hk]
  · rename_i h; rw [if_neg (fun e => h e.symm)]
theorem tp_set {ts : List (Int × Bool)} {k i : Nat} {v : Int} {p : Bool} (hk : k < ts.length) : tp (ts.set k (v, p)) i = if i = k then p else tp ts i := by
  unfold tp
  rw [List.getElem?_set]
  split
  · rename_i h; subst h; simp [hk]
  · rename_i h; rw [if_neg (fun e => h e.symm)]
section
variable {w : World} {lo hi : Nat} {g n c : Nat} {ts : List (Int × Bool)}
/-- A throw of a row is written. -/
theorem RowT.store (h : RowT w lo hi (some ⟨g, 0, none⟩) n c ts) {k : Nat} (hk : k < n) (v : Int) (p : Bool) : RowT ((w.setCell ⟨g, k * 2, none⟩ (.int .i64 v)).setCell ⟨g, k * 2 + 1, none⟩ (.bool p)) lo hi (some ⟨g, 0, none⟩) n c (ts.set k (v, p)) := by
  obtain ⟨cs, hR, hat⟩ := h.row
  have hl := hR.len
  refine ⟨by rw [List.length_set, h.len], _, (hR.store _ _).store _ _, fun i hi => ?_⟩
  rw [tv_set (by rw [h.len]; exact hk), tp_set (by rw [h.len]; exact hk)]
  by_cases e : i = k
  · subst e
    rw [if_pos rfl, if_pos rfl]
    refine ⟨?_, ?_⟩
    · rw [List.getElem?_set_ne (by omega), List.getElem?_set_self (by omega)]
    · rw [List.getElem?_set_self (by rw [List.length_set]; omega)]
  · rw [if_neg e, if_neg e]
    obtain ⟨e0, e1⟩ := hat i hi
    refine ⟨?_, ?_⟩
    · rw [List.getElem?_set_ne (by omega), List.getElem?_set_ne (by omega), e0]
    · rw [List.getElem?_set_ne (by omega), List.getElem?_set_ne (by omega), e1]
theorem RowT.other {A : Option Addr} (h : RowT w lo hi A n c ts) {p : Addr} (hp : A.map (·.block) ≠ some p.block) (v : Value) : RowT (w.setCell p v) lo hi A n c ts :=
  h.beside (row := some p.block) ⟨rfl, rfl, rfl, by simp [World.setCell], fun i hi hne => Below.heap_setCell w p v i (by rintro rfl; exact hne rfl)⟩ (fun g hg => by cases hg; exact hp)
theorem RowT.cells (h : RowT w lo hi (some ⟨g, 0, none⟩) n c ts) {k : Nat} (hk : k < n) : w.cell? ⟨g, k * 2, none⟩ = some (.int .i64 (tv ts k)) ∧ w.cell? ⟨g, k * 2 + 1, none⟩ = some (.bool (tp ts k)) ∧ w.frozen? ⟨g, k * 2, none⟩ = false ∧ w.frozen? ⟨g, k * 2 + 1, none⟩ = false := by
  obtain ⟨cs, hR, hat⟩ := h.row
  obtain ⟨a0, a1⟩ := hat k hk
  obtain ⟨d0, f0⟩ := hR.cellAt (p := k * 2) (by omega)
  obtain ⟨d1, f1⟩ := hR.cellAt (p := k * 2 + 1) (by omega)
  exact ⟨d0.trans a0, d1.trans a1, f0, f1⟩
theorem RowT.form {A : Option Addr} (h : RowT w lo hi A n c ts) (hn : 0 < n) : ∃ g, A = some ⟨g, 0, none⟩ ∧ lo ≤ g ∧ g < hi ∧ g < w.heap.size := by
  obtain ⟨cs, hR, hat⟩ := h.row
  obtain ⟨g, rfl, hg⟩ := hR.form hn
  obtain ⟨h1, h2⟩ := hR.row_bd g rfl
  exact ⟨g, rfl, h1, h2, hg⟩
end
theorem PassR.exch {w : World} {lo hi ga gb n c m d : Nat} {ts us : List (Int × Bool)} (h : PassR w lo hi (some ⟨ga, 0, none⟩) n c (some ⟨gb, 0, none⟩) m d ts us) {k : Nat} (hk : k < n) (hk' : k < m) (v : Int) (p : Bool) (v' : Int) (p' : Bool) :
    PassR ((((w.setCell ⟨ga, k * 2, none⟩ (.int .i64 v)).setCell ⟨ga, k * 2 + 1, none⟩ (.bool p)).setCell ⟨gb, k * 2, none⟩ (.int .i64 v')).setCell ⟨gb, k * 2 + 1, none⟩ (.bool p')) lo hi (some ⟨ga, 0, none⟩) n c (some ⟨gb, 0, none⟩) m d (ts.set k (v, p)) (us.set k (v', p')) := by
  have hne : ga ≠ gb := fun e => h.ne ga rfl (by rw [e]; rfl)
  exact ⟨((h.a.store hk v p).other (by simpa using hne) _).other (by simpa using hne) _, ((h.b.other (by simpa using fun e : gb = ga => hne e.symm) _).other (by simpa using fun e : gb = ga => hne e.symm) _).store hk' v' p', h.ne⟩
set_option maxHeartbeats 4000000 in
theorem spec_exch (A B : Option Addr) (n c m d : Nat) (ts us : List (Int × Bool)) (k : Int) (hk : -9223372036854775808 ≤ k ∧ k ≤ 9223372036854775807) (w : World) (hI : Thr w A n ts) (hJ : Thr w B m us) :
    Calls Try.prog 13 #[.agg #[.slice A n c, .slice B m d], .int .i64 k] w (RetPC w (exj ts us k).1 (exj ts us k).2.1 (exj ts us k).2.2) := by
  cases hv : vpas ts us
  · have HX : Hid (exj ts us k = ([], [], 1)) := by show _ = _; simp [exj, hv]
    rw [HX.out]
    go_enter Try.func13, Try.ntmps13
    go_wp2_with fail
    (with_reducible refine (l06Ok_any _ A B n c m d ts us _ ⟨by first | (simp [World.setCell]; done) | (simp [World.setCell]; omega) | omega, by go_simp, by go_simp⟩ (hI.ext (by with_reducible (repeat (first | exact Ext.refl _ | apply Ext.drewN | apply Ext.drew | apply Ext.alloc | (refine Ext.set ?_ (by first | (simp; done) | (simp; omega) | omega) _) | (refine Ext.trans ?_ (by assumption)))))) (hJ.ext (by with_reducible (repeat (first | exact Ext.refl _ | apply Ext.drewN | apply Ext.drew | apply Ext.alloc | (refine Ext.set ?_ (by first | (simp; done) | (simp; omega) | omega) _) | (refine Ext.trans ?_ (by assumption))))))).mono ?_)
    rw [hv]
    rintro e w1 ⟨rfl, hx1⟩
    have hz1 := hx1.size
    (try simp at hz1)
    have q0 : w.heap.size + 1 < w1.heap.size := by omega
    have q00 : w.heap.size < w1.heap.size := by omega
    have q01 : w.heap.size + 1 < w1.heap.size + 1 := by omega
    have q02 : w.heap.size < w1.heap.size + 1 := by omega
    have q03 : w.heap.size < w1.heap.size + 1 + 1 := by omega
    have q04 : w.heap.size + 1 < w1.heap.size + 1 + 1 := by omega
    have k1 : ∀ o, w1.cell? ⟨w.heap.size + 1, o, none⟩ = _ := fun o => hx1.cells.1 _ o (by first | (simp; done) | (simp; omega) | omega)
    have f1 : ∀ o, w1.frozen? ⟨w.heap.size + 1, o, none⟩ = _ := fun o => hx1.cells.2 _ o (by first | (simp; done) | (simp; omega) | omega)
    have k0 : ∀ o, w1.cell? ⟨w.heap.size, o, none⟩ = _ := fun o => hx1.cells.1 _ o (by first | (simp; done) | (simp; omega) | omega)
    have hE1 : Ext w w1 := Ext.trans (by with_reducible (repeat (first | exact Ext.refl _ | apply Ext.drewN | apply Ext.drew | apply Ext.alloc | (refine Ext.set ?_ (by first | (simp; done) | (simp; omega) | omega) _) | (refine Ext.trans ?_ (by assumption))))) hx1
    clear hx1
    go_wp2
    exact bodyPost_ret (v := .tuple #[.agg #[.slice none 0 0, .slice none 0 0], .int .i64 1]) (by simp [results, Try.results13, go_sem, *]) rfl ⟨none, 0, 0, none, 0, 0, rfl, PassR.nil _ _ _, (by with_reducible (repeat (first | exact Ext.refl _ | apply Ext.drewN | apply Ext.drew | apply Ext.alloc | (refine Ext.set ?_ (by first | (simp; done) | (simp; omega) | omega) _) | (refine Ext.trans ?_ (by assumption)))))⟩
  · obtain ⟨g1, g2, g3, g4, g5⟩ := vpas_parts hv
    have l1 := hI.len
    have l2 := hJ.len
    obtain rfl : m = n := by omega
    rw [l1] at g1 g2 g4
    rw [l2] at g5
    have HB := Lib.hid (And.intro g4 g5)
    clear g3 g4 g5
    cases hr : btw k 0 ((m : Int) - 1)
    · have HX : Hid (exj ts us k = ([], [], 2)) := by show _ = _; simp [exj, hv, l1, hr]
      rw [HX.out]
      clear l1 l2
      go_enter Try.func13, Try.ntmps13
      go_wp2_with fail
      (with_reducible refine (l06Ok_any _ A B m c m d ts us _ ⟨by first | (simp [World.setCell]; done) | (simp [World.setCell]; omega) | omega, by go_simp, by go_simp⟩ (hI.ext (by with_reducible (repeat (first | exact Ext.refl _ | apply Ext.drewN | apply Ext.drew | apply Ext.alloc | (refine Ext.set ?_ (by first | (simp; done) | (simp; omega) | omega) _) | (refine Ext.trans ?_ (by assumption)))))) (hJ.ext (by with_reducible (repeat (first | exact Ext.refl _ | apply Ext.drewN | apply Ext.drew | apply Ext.alloc | (refine Ext.set ?_ (by first | (simp; done) | (simp; omega) | omega) _) | (refine Ext.trans ?_ (by assumption))))))).mono ?_)
      rw [hv]
      rintro e w1 ⟨rfl, hx1⟩
      have hz1 := hx1.size
      (try simp at hz1)
      have q0 : w.heap.size + 1 < w1.heap.size := by omega
      have q00 : w.heap.size < w1.heap.size := by omega
      have q01 : w.heap.size + 1 < w1.heap.size + 1 := by omega
      have q02 : w.heap.size < w1.heap.size + 1 := by omega
      have q03 : w.heap.size < w1.heap.size + 1 + 1 := by omega
      have q04 : w.heap.size + 1 < w1.heap.size + 1 + 1 := by omega
      have k1 : ∀ o, w1.cell? ⟨w.heap.size + 1, o, none⟩ = _ := fun o => hx1.cells.1 _ o (by first | (simp; done) | (simp; omega) | omega)
      have f1 : ∀ o, w1.frozen? ⟨w.heap.size + 1, o, none⟩ = _ := fun o => hx1.cells.2 _ o (by first | (simp; done) | (simp; omega) | omega)
      have k0 : ∀ o, w1.cell? ⟨w.heap.size, o, none⟩ = _ := fun o => hx1.cells.1 _ o (by first | (simp; done) | (simp; omega) | omega)
      have hE1 : Ext w w1 := Ext.trans (by with_reducible (repeat (first | exact Ext.refl _ | apply Ext.drewN | apply Ext.drew | apply Ext.alloc | (refine Ext.set ?_ (by first | (simp; done) | (simp; omega) | omega) _) | (refine Ext.trans ?_ (by assumption))))) hx1
      clear hx1
      go_wp2_with (go_at_call 33; (with_reducible refine (l00In_is _ _ _ _ hr _).mono ?_); rintro e w' ⟨rfl, rfl⟩)
      exact bodyPost_ret (v := .tuple #[.agg #[.slice none 0 0, .slice none 0 0], .int .i64 2]) (by simp [results, Try.results13, go_sem, *]) rfl ⟨none, 0, 0, none, 0, 0, rfl, PassR.nil _ _ _, (by with_reducible (repeat (first | exact Ext.refl _ | apply Ext.drewN | apply Ext.drew | apply Ext.alloc | (refine Ext.set ?_ (by first | (simp; done) | (simp; omega) | omega) _) | (refine Ext.trans ?_ (by assumption)))))⟩
    · have hr' := btw_iff.1 hr
      obtain ⟨i, rfl⟩ : ∃ i : Nat, k = i := ⟨k.toNat, by omega⟩
      have him : i < m := by omega
      have hii : (i : Int) < m := by omega
      obtain ⟨va, hva⟩ : ∃ v, tv ts i = v := ⟨_, rfl⟩
      obtain ⟨pa, hpa⟩ : ∃ p, tp ts i = p := ⟨_, rfl⟩
      obtain ⟨vb, hvb⟩ : ∃ v, tv us i = v := ⟨_, rfl⟩
      obtain ⟨pb, hpb⟩ : ∃ p, tp us i = p := ⟨_, rfl⟩
      have hba := HB.out.1 i him
      have hbb := HB.out.2 i him
      rw [hva] at hba
      rw [hvb] at hbb
      have HX : Hid (exj ts us (i : Int) = if va = 0 ∨ vb = 0 then ([], [], 6) else (ts.set i (vb, !pb), us.set i (va, !pa), 0)) := by
        show _ = _
        unfold exj
        rw [hv, if_pos rfl, l1, hr, if_pos rfl, Int.toNat_natCast, hva, hvb, hpa, hpb]
      clear l1 l2 hr'
      obtain ⟨ba, oa, hA, hla, hca⟩ := hI.at_ (by omega)
      obtain ⟨bb, ob, hB, hlb, hcb⟩ := hJ.at_ (by omega)
      subst hA hB
      obtain ⟨a0, a1⟩ := hca i him
      obtain ⟨b0, b1⟩ := hcb i him
      rw [hva] at a0
      rw [hpa] at a1
      rw [hvb] at b0
      rw [hpb] at b1
      clear hca hcb hva hpa hvb hpb
      by_cases hz : va = 0 ∨ vb = 0
      · have HX2 : Hid (exj ts us (i : Int) = ([], [], 6)) := by show _ = _; rw [HX.out, if_pos hz]
        rw [HX2.out]
        go_enter Try.func13, Try.ntmps13
        go_wp2_with fail
        (with_reducible refine (l06Ok_any _ (some ⟨ba, oa, none⟩) (some ⟨bb, ob, none⟩) m c m d ts us _ ⟨by first | (simp [World.setCell]; done) | (simp [World.setCell]; omega) | omega, by go_simp, by go_simp⟩ (hI.ext (by with_reducible (repeat (first | exact Ext.refl _ | apply Ext.drewN | apply Ext.drew | apply Ext.alloc | (refine Ext.set ?_ (by first | (simp; done) | (simp; omega) | omega) _) | (refine Ext.trans ?_ (by assumption)))))) (hJ.ext (by with_reducible (repeat (first | exact Ext.refl _ | apply Ext.drewN | apply Ext.drew | apply Ext.alloc | (refine Ext.set ?_ (by first | (simp; done) | (simp; omega) | omega) _) | (refine Ext.trans ?_ (by assumption))))))).mono ?_)
        rw [hv]
        rintro e w1 ⟨rfl, hx1⟩
        have hz1 := hx1.size
        (try simp at hz1)
        have q0 : w.heap.size + 1 < w1.heap.size := by omega
        have q00 : w.heap.size < w1.heap.size := by omega
        have q01 : w.heap.size + 1 < w1.heap.size + 1 := by omega
        have q02 : w.heap.size < w1.heap.size + 1 := by omega
        have q03 : w.heap.size < w1.heap.size + 1 + 1 := by omega
        have q04 : w.heap.size + 1 < w1.heap.size + 1 + 1 := by omega
        have k1 : ∀ o, w1.cell? ⟨w.heap.size + 1, o, none⟩ = _ := fun o => hx1.cells.1 _ o (by first | (simp; done) | (simp; omega) | omega)
        have f1 : ∀ o, w1.frozen? ⟨w.heap.size + 1, o, none⟩ = _ := fun o => hx1.cells.2 _ o (by first | (simp; done) | (simp; omega) | omega)
        have k0 : ∀ o, w1.cell? ⟨w.heap.size, o, none⟩ = _ := fun o => hx1.cells.1 _ o (by first | (simp; done) | (simp; omega) | omega)
        have hE1 : Ext w w1 := Ext.trans (by with_reducible (repeat (first | exact Ext.refl _ | apply Ext.drewN | apply Ext.drew | apply Ext.alloc | (refine Ext.set ?_ (by first | (simp; done) | (simp; omega) | omega) _) | (refine Ext.trans ?_ (by assumption))))) hx1
        clear hx1
        have a0' := hE1.cell hla a0
        have a1' := hE1.cell hla a1
        have b0' := hE1.cell hlb b0
        have b1' := hE1.cell hlb b1
        have la1 : ba < w1.heap.size := by omega
        have lb1 : bb < w1.heap.size := by omega
        have la2 : ba < w1.heap.size + 1 := by omega
        have lb2 : bb < w1.heap.size + 1 := by omega
        clear a0 a1 b0 b1
        by_cases hz1' : va = 0
        · subst hz1'
          go_wp2_with (go_at_call 33; (with_reducible refine (l00In_is _ _ _ _ hr _).mono ?_); rintro e w' ⟨rfl, rfl⟩)
          exact bodyPost_ret (v := .tuple #[.agg #[.slice none 0 0, .slice none 0 0], .int .i64 6]) (by simp [results, Try.results13, go_sem, *]) rfl ⟨none, 0, 0, none, 0, 0, rfl, PassR.nil _ _ _, (by with_reducible (repeat (first | exact Ext.refl _ | apply Ext.drewN | apply Ext.drew | apply Ext.alloc | (refine Ext.set ?_ (by first | (simp; done) | (simp; omega) | omega) _) | (refine Ext.trans ?_ (by assumption)))))⟩
        · obtain rfl : vb = 0 := by omega
          go_wp2_with (go_at_call 33; (with_reducible refine (l00In_is _ _ _ _ hr _).mono ?_); rintro e w' ⟨rfl, rfl⟩)
          exact bodyPost_ret (v := .tuple #[.agg #[.slice none 0 0, .slice none 0 0], .int .i64 6]) (by simp [results, Try.results13, go_sem, *]) rfl ⟨none, 0, 0, none, 0, 0, rfl, PassR.nil _ _ _, (by with_reducible (repeat (first | exact Ext.refl _ | apply Ext.drewN | apply Ext.drew | apply Ext.alloc | (refine Ext.set ?_ (by first | (simp; done) | (simp; omega) | omega) _) | (refine Ext.trans ?_ (by assumption)))))⟩
      · have HX2 : Hid (exj ts us (i : Int) = (ts.set i (vb, !pb), us.set i (va, !pa), 0)) := by show _ = _; rw [HX.out, if_neg hz]
        rw [HX2.out]
        have hz1' : ¬ va = 0 := fun h => hz (.inl h)
        have hz2' : ¬ vb = 0 := fun h => hz (.inr h)
        have hz1b : (va == 0) = false := beq_eq_false_iff_ne.2 hz1'
        have hz2b : (vb == 0) = false := beq_eq_false_iff_ne.2 hz2'
        clear hz hz1' hz2'
        go_enter Try.func13, Try.ntmps13
        go_wp2_with fail
        (with_reducible refine (l06Ok_any _ (some ⟨ba, oa, none⟩) (some ⟨bb, ob, none⟩) m c m d ts us _ ⟨by first | (simp [World.setCell]; done) | (simp [World.setCell]; omega) | omega, by go_simp, by go_simp⟩ (hI.ext (by with_reducible (repeat (first | exact Ext.refl _ | apply Ext.drewN | apply Ext.drew | apply Ext.alloc | (refine Ext.set ?_ (by first | (simp; done) | (simp; omega) | omega) _) | (refine Ext.trans ?_ (by assumption)))))) (hJ.ext (by with_reducible (repeat (first | exact Ext.refl _ | apply Ext.drewN | apply Ext.drew | apply Ext.alloc | (refine Ext.set ?_ (by first | (simp; done) | (simp; omega) | omega) _) | (refine Ext.trans ?_ (by assumption))))))).mono ?_)
        rw [hv]
        rintro e w1 ⟨rfl, hx1⟩
        have hz1 := hx1.size
        (try simp at hz1)
        have q0 : w.heap.size + 1 < w1.heap.size := by omega
        have q00 : w.heap.size < w1.heap.size := by omega
        have q01 : w.heap.size + 1 < w1.heap.size + 1 := by omega
        have q02 : w.heap.size < w1.heap.size + 1 := by omega
        have q03 : w.heap.size < w1.heap.size + 1 + 1 := by omega
        have q04 : w.heap.size + 1 < w1.heap.size + 1 + 1 := by omega
        have k1 : ∀ o, w1.cell? ⟨w.heap.size + 1, o, none⟩ = _ := fun o => hx1.cells.1 _ o (by first | (simp; done) | (simp; omega) | omega)
        have f1 : ∀ o, w1.frozen? ⟨w.heap.size + 1, o, none⟩ = _ := fun o => hx1.cells.2 _ o (by first | (simp; done) | (simp; omega) | omega)
        have k0 : ∀ o, w1.cell? ⟨w.heap.size, o, none⟩ = _ := fun o => hx1.cells.1 _ o (by first | (simp; done) | (simp; omega) | omega)
        have hE1 : Ext w w1 := Ext.trans (by with_reducible (repeat (first | exact Ext.refl _ | apply Ext.drewN | apply Ext.drew | apply Ext.alloc | (refine Ext.set ?_ (by first | (simp; done) | (simp; omega) | omega) _) | (refine Ext.trans ?_ (by assumption))))) hx1
        clear hx1
        have a0' := hE1.cell hla a0
        have a1' := hE1.cell hla a1
        have b0' := hE1.cell hlb b0
        have b1' := hE1.cell hlb b1
        have la1 : ba < w1.heap.size := by omega
        have lb1 : bb < w1.heap.size := by omega
        have la2 : ba < w1.heap.size + 1 := by omega
        have lb2 : bb < w1.heap.size + 1 := by omega
        go_wp2_with (go_at_call 33; (with_reducible refine (l00In_is _ _ _ _ hr _).mono ?_); rintro e w' ⟨rfl, rfl⟩)
        (with_reducible refine (l06Own_any w.heap.size (some ⟨ba, oa, none⟩) (some ⟨bb, ob, none⟩) m c m d ts us _ ⟨by first | (simp [World.setCell]; done) | (simp [World.setCell]; omega) | omega, by go_simp, by go_simp⟩ (hI.ext (by with_reducible (repeat (first | exact Ext.refl _ | apply Ext.drewN | apply Ext.drew | apply Ext.alloc | (refine Ext.set ?_ (by first | (simp; done) | (simp; omega) | omega) _) | (refine Ext.trans ?_ (by assumption)))))) (hJ.ext (by with_reducible (repeat (first | exact Ext.refl _ | apply Ext.drewN | apply Ext.drew | apply Ext.alloc | (refine Ext.set ?_ (by first | (simp; done) | (simp; omega) | omega) _) | (refine Ext.trans ?_ (by assumption)))))) (by omega) (by omega)).mono ?_)
        rintro e w2 ⟨A1, c1, B1, d1, rfl, R, hx2⟩
        have HR : Hid (PassR w2 (w1.heap.size + 1 + 1) w2.heap.size A1 m c1 B1 m d1 ts us) := by show PassR _ _ _ _ _ _ _ _ _ _ _; simpa using R
        clear R
        have hz2 : w1.heap.size + 1 + 1 ≤ w2.heap.size := by simpa using hx2.size
        obtain ⟨ga, rfl, ga1, ga2, ga3⟩ := HR.out.a.form (by omega)
        obtain ⟨gb, rfl, gb1, gb2, gb3⟩ := HR.out.b.form (by omega)
        have hne : ¬ ga = gb := fun e => HR.out.ne ga rfl (by rw [e]; rfl)
        have hne2 : ¬ gb = ga := fun e => hne e.symm
        obtain ⟨ca0, ca1, fa0, fa1⟩ := HR.out.a.cells him
        obtain ⟨cb0, cb1, fb0, fb1⟩ := HR.out.b.cells him
        have m1 : ∀ o, w2.cell? ⟨w.heap.size + 1, o, none⟩ = _ := fun o => hx2.cells.1 _ o (by first | (simp; done) | (simp; omega) | omega)
        have n1 : ∀ o, w2.frozen? ⟨w.heap.size + 1, o, none⟩ = _ := fun o => hx2.cells.2 _ o (by first | (simp; done) | (simp; omega) | omega)
        have ma : ∀ o, w2.cell? ⟨w1.heap.size, o, none⟩ = _ := fun o => hx2.cells.1 _ o (by first | (simp; done) | (simp; omega) | omega)
        have mb : ∀ o, w2.cell? ⟨w1.heap.size + 1, o, none⟩ = _ := fun o => hx2.cells.1 _ o (by first | (simp; done) | (simp; omega) | omega)
        have r1 : w.heap.size + 1 < w2.heap.size := by omega
        have r2 : w1.heap.size < w2.heap.size := by omega
        have r3 : w1.heap.size + 1 < w2.heap.size := by omega
        have s1 : w.heap.size + 1 < ga := by omega
        have s2 : w1.heap.size < ga := by omega
        have s3 : w1.heap.size + 1 < ga := by omega
        have t1 : w.heap.size + 1 < gb := by omega
        have t2 : w1.heap.size < gb := by omega
        have t3 : w1.heap.size + 1 < gb := by omega
        have hE2 : Ext w w2 := Ext.trans (by with_reducible (repeat (first | exact Ext.refl _ | apply Ext.drewN | apply Ext.drew | apply Ext.alloc | (refine Ext.set ?_ (by first | (simp; done) | (simp; omega) | omega) _) | (refine Ext.trans ?_ (by assumption))))) hx2
        clear hx2
        go_wp2
        refine bodyPost_ret (v := .tuple #[.agg #[.slice (some ⟨ga, 0, none⟩) m c1, .slice (some ⟨gb, 0, none⟩) m d1], .int .i64 0]) (by simp [results, Try.results13, go_sem, *]) rfl ⟨_, _, _, _, _, _, rfl, ?_, (by with_reducible (repeat (first | exact Ext.refl _ | apply Ext.drewN | apply Ext.drew | apply Ext.alloc | (refine Ext.set ?_ (by first | (simp; done) | (simp; omega) | omega) _) | (refine Ext.trans ?_ (by assumption)))))⟩
        exact ((((HR.out.exch him him _ _ _ _).far (p := ⟨w.heap.size + 1, 0, none⟩) (.inl (by simp; omega)) _).far (p := ⟨w.heap.size + 1, 1, none⟩) (.inl (by simp; omega)) _).ext (by with_reducible (repeat (first | exact Ext.refl _ | apply Ext.drewN | apply Ext.drew | apply Ext.alloc | (refine Ext.set ?_ (by first | (simp; done) | (simp; omega) | omega) _) | (refine Ext.trans ?_ (by assumption)))))).wide (by omega) (by simp [World.setCell])
set_option maxHeartbeats 4000000 in
theorem impl_exch (A B : Option Addr) (n c m d : Nat) (ts us : List (Int × Bool)) (k : Int) (hk : -9223372036854775808 ≤ k ∧ k ≤ 9223372036854775807) (w : World) (hI : Thr w A n ts) (hJ : Thr w B m us) :
    Calls Try.prog 14 #[.agg #[.slice A n c, .slice B m d], .int .i64 k] w (RetPC w (exj ts us k).1 (exj ts us k).2.1 (exj ts us k).2.2) := by
  cases hv : vpas ts us
  · have HX : Hid (exj ts us k = ([], [], 1)) := by show _ = _; simp [exj, hv]
    rw [HX.out]
    go_enter Try.func14, Try.ntmps14
    go_wp2_with fail
    (with_reducible refine (ValidPassing_any _ _ n _ m _ ts us _ (hI.ext (by with_reducible (repeat (first | exact Ext.refl _ | apply Ext.drewN | apply Ext.drew | apply Ext.alloc | (refine Ext.set ?_ (by first | (simp; done) | (simp; omega) | omega) _) | (refine Ext.trans ?_ (by assumption)))))) (hJ.ext (by with_reducible (repeat (first | exact Ext.refl _ | apply Ext.drewN | apply Ext.drew | apply Ext.alloc | (refine Ext.set ?_ (by first | (simp; done) | (simp; omega) | omega) _) | (refine Ext.trans ?_ (by assumption))))))).mono ?_)
    rw [hv]
    rintro e w1 ⟨rfl, hx1⟩
    have hz1 := hx1.size
    (try simp at hz1)
    have q0 : w.heap.size + 1 < w1.heap.size := by omega
    have q00 : w.heap.size < w1.heap.size := by omega
    have q01 : w.heap.size + 1 < w1.heap.size + 1 := by omega
    have q02 : w.heap.size < w1.heap.size + 1 := by omega
    have q03 : w.heap.size < w1.heap.size + 1 + 1 := by omega
    have q04 : w.heap.size + 1 < w1.heap.size + 1 + 1 := by omega
    have k1 : ∀ o, w1.cell? ⟨w.heap.size + 1, o, none⟩ = _ := fun o => hx1.cells.1 _ o (by first | (simp; done) | (simp; omega) | omega)
    have f1 : ∀ o, w1.frozen? ⟨w.heap.size + 1, o, none⟩ = _ := fun o => hx1.cells.2 _ o (by first | (simp; done) | (simp; omega) | omega)
    have k0 : ∀ o, w1.cell? ⟨w.heap.size, o, none⟩ = _ := fun o => hx1.cells.1 _ o (by first | (simp; done) | (simp; omega) | omega)
    have hE1 : Ext w w1 := Ext.trans (by with_reducible (repeat (first | exact Ext.refl _ | apply Ext.drewN | apply Ext.drew | apply Ext.alloc | (refine Ext.set ?_ (by first | (simp; done) | (simp; omega) | omega) _) | (refine Ext.trans ?_ (by assumption))))) hx1
    clear hx1
    go_wp2
    exact bodyPost_ret (v := .tuple #[.agg #[.slice none 0 0, .slice none 0 0], .int .i64 1]) (by simp [results, Try.results14, go_sem, *]) rfl ⟨none, 0, 0, none, 0, 0, rfl, PassR.nil _ _ _, (by with_reducible (repeat (first | exact Ext.refl _ | apply Ext.drewN | apply Ext.drew | apply Ext.alloc | (refine Ext.set ?_ (by first | (simp; done) | (simp; omega) | omega) _) | (refine Ext.trans ?_ (by assumption)))))⟩
  · obtain ⟨g1, g2, g3, g4, g5⟩ := vpas_parts hv
    have l1 := hI.len
    have l2 := hJ.len
    obtain rfl : m = n := by omega
    rw [l1] at g1 g2 g4
    rw [l2] at g5
    have HB := Lib.hid (And.intro g4 g5)
    clear g3 g4 g5
    cases hr : btw k 0 ((m : Int) - 1)
    · have HX : Hid (exj ts us k = ([], [], 2)) := by show _ = _; simp [exj, hv, l1, hr]
      rw [HX.out]
      clear l1 l2
      go_enter Try.func14, Try.ntmps14
      go_wp2_with fail
      (with_reducible refine (ValidPassing_any _ _ m _ m _ ts us _ (hI.ext (by with_reducible (repeat (first | exact Ext.refl _ | apply Ext.drewN | apply Ext.drew | apply Ext.alloc | (refine Ext.set ?_ (by first | (simp; done) | (simp; omega) | omega) _) | (refine Ext.trans ?_ (by assumption)))))) (hJ.ext (by with_reducible (repeat (first | exact Ext.refl _ | apply Ext.drewN | apply Ext.drew | apply Ext.alloc | (refine Ext.set ?_ (by first | (simp; done) | (simp; omega) | omega) _) | (refine Ext.trans ?_ (by assumption))))))).mono ?_)
      rw [hv]
      rintro e w1 ⟨rfl, hx1⟩
      have hz1 := hx1.size
      (try simp at hz1)
      have q0 : w.heap.size + 1 < w1.heap.size := by omega
      have q00 : w.heap.size < w1.heap.size := by omega
      have q01 : w.heap.size + 1 < w1.heap.size + 1 := by omega
      have q02 : w.heap.size < w1.heap.size + 1 := by omega
      have q03 : w.heap.size < w1.heap.size + 1 + 1 := by omega
      have q04 : w.heap.size + 1 < w1.heap.size + 1 + 1 := by omega
      have k1 : ∀ o, w1.cell? ⟨w.heap.size + 1, o, none⟩ = _ := fun o => hx1.cells.1 _ o (by first | (simp; done) | (simp; omega) | omega)
      have f1 : ∀ o, w1.frozen? ⟨w.heap.size + 1, o, none⟩ = _ := fun o => hx1.cells.2 _ o (by first | (simp; done) | (simp; omega) | omega)
      have k0 : ∀ o, w1.cell? ⟨w.heap.size, o, none⟩ = _ := fun o => hx1.cells.1 _ o (by first | (simp; done) | (simp; omega) | omega)
      have hE1 : Ext w w1 := Ext.trans (by with_reducible (repeat (first | exact Ext.refl _ | apply Ext.drewN | apply Ext.drew | apply Ext.alloc | (refine Ext.set ?_ (by first | (simp; done) | (simp; omega) | omega) _) | (refine Ext.trans ?_ (by assumption))))) hx1
      clear hx1
      go_wp2_with (go_at_call 34; (with_reducible refine (between_is _ _ _ _ hr _).mono ?_); rintro e w' ⟨rfl, rfl⟩)
      exact bodyPost_ret (v := .tuple #[.agg #[.slice none 0 0, .slice none 0 0], .int .i64 2]) (by simp [results, Try.results14, go_sem, *]) rfl ⟨none, 0, 0, none, 0, 0, rfl, PassR.nil _ _ _, (by with_reducible (repeat (first | exact Ext.refl _ | apply Ext.drewN | apply Ext.drew | apply Ext.alloc | (refine Ext.set ?_ (by first | (simp; done) | (simp; omega) | omega) _) | (refine Ext.trans ?_ (by assumption)))))⟩
    · have hr' := btw_iff.1 hr
      obtain ⟨i, rfl⟩ : ∃ i : Nat, k = i := ⟨k.toNat, by omega⟩
      have him : i < m := by omega
      have hii : (i : Int) < m := by omega
      obtain ⟨va, hva⟩ : ∃ v, tv ts i = v := ⟨_, rfl⟩
      obtain ⟨pa, hpa⟩ : ∃ p, tp ts i = p := ⟨_, rfl⟩
      obtain ⟨vb, hvb⟩ : ∃ v, tv us i = v := ⟨_, rfl⟩
      obtain ⟨pb, hpb⟩ : ∃ p, tp us i = p := ⟨_, rfl⟩
      have hba := HB.out.1 i him
      have hbb := HB.out.2 i him
      rw [hva] at hba
      rw [hvb] at hbb
      have HX : Hid (exj ts us (i : Int) = if va = 0 ∨ vb = 0 then ([], [], 6) else (ts.set i (vb, !pb), us.set i (va, !pa), 0)) := by
        show _ = _
        unfold exj
        rw [hv, if_pos rfl, l1, hr, if_pos rfl, Int.toNat_natCast, hva, hvb, hpa, hpb]
      clear l1 l2 hr'
      obtain ⟨ba, oa, hA, hla, hca⟩ := hI.at_ (by omega)
      obtain ⟨bb, ob, hB, hlb, hcb⟩ := hJ.at_ (by omega)
      subst hA hB
      obtain ⟨a0, a1⟩ := hca i him
      obtain ⟨b0, b1⟩ := hcb i him
      rw [hva] at a0
      rw [hpa] at a1
      rw [hvb] at b0
      rw [hpb] at b1
      clear hca hcb hva hpa hvb hpb
      by_cases hz : va = 0 ∨ vb = 0
      · have HX2 : Hid (exj ts us (i : Int) = ([], [], 6)) := by show _ = _; rw [HX.out, if_pos hz]
        rw [HX2.out]
        go_enter Try.func14, Try.ntmps14
        go_wp2_with fail
        (with_reducible refine (ValidPassing_any _ _ m _ m _ ts us _ (hI.ext (by with_reducible (repeat (first | exact Ext.refl _ | apply Ext.drewN | apply Ext.drew | apply Ext.alloc | (refine Ext.set ?_ (by first | (simp; done) | (simp; omega) | omega) _) | (refine Ext.trans ?_ (by assumption)))))) (hJ.ext (by with_reducible (repeat (first | exact Ext.refl _ | apply Ext.drewN | apply Ext.drew | apply Ext.alloc | (refine Ext.set ?_ (by first | (simp; done) | (simp; omega) | omega) _) | (refine Ext.trans ?_ (by assumption))))))).mono ?_)
        rw [hv]
        rintro e w1 ⟨rfl, hx1⟩
        have hz1 := hx1.size
        (try simp at hz1)
        have q0 : w.heap.size + 1 < w1.heap.size := by omega
        have q00 : w.heap.size < w1.heap.size := by omega
        have q01 : w.heap.size + 1 < w1.heap.size + 1 := by omega
        have q02 : w.heap.size < w1.heap.size + 1 := by omega
        have q03 : w.heap.size < w1.heap.size + 1 + 1 := by omega
        have q04 : w.heap.size + 1 < w1.heap.size + 1 + 1 := by omega
        have k1 : ∀ o, w1.cell? ⟨w.heap.size + 1, o, none⟩ = _ := fun o => hx1.cells.1 _ o (by first | (simp; done) | (simp; omega) | omega)
        have f1 : ∀ o, w1.frozen? ⟨w.heap.size + 1, o, none⟩ = _ := fun o => hx1.cells.2 _ o (by first | (simp; done) | (simp; omega) | omega)
        have k0 : ∀ o, w1.cell? ⟨w.heap.size, o, none⟩ = _ := fun o => hx1.cells.1 _ o (by first | (simp; done) | (simp; omega) | omega)
        have hE1 : Ext w w1 := Ext.trans (by with_reducible (repeat (first | exact Ext.refl _ | apply Ext.drewN | apply Ext.drew | apply Ext.alloc | (refine Ext.set ?_ (by first | (simp; done) | (simp; omega) | omega) _) | (refine Ext.trans ?_ (by assumption))))) hx1
        clear hx1
        have a0' := hE1.cell hla a0
        have a1' := hE1.cell hla a1
        have b0' := hE1.cell hlb b0
        have b1' := hE1.cell hlb b1
        have la1 : ba < w1.heap.size := by omega
        have lb1 : bb < w1.heap.size := by omega
        have la2 : ba < w1.heap.size + 1 := by omega
        have lb2 : bb < w1.heap.size + 1 := by omega
        clear a0 a1 b0 b1
        by_cases hz1' : va = 0
        · subst hz1'
          go_wp2_with (go_at_call 34; (with_reducible refine (between_is _ _ _ _ hr _).mono ?_); rintro e w' ⟨rfl, rfl⟩)
          go_region
          all_goals
            go_wp2
            exact bodyPost_ret (v := .tuple #[.agg #[.slice none 0 0, .slice none 0 0], .int .i64 6]) (by simp [results, Try.results14, go_sem, *]) rfl ⟨none, 0, 0, none, 0, 0, rfl, PassR.nil _ _ _, (by with_reducible (repeat (first | exact Ext.refl _ | apply Ext.drewN | apply Ext.drew | apply Ext.alloc | (refine Ext.set ?_ (by first | (simp; done) | (simp; omega) | omega) _) | (refine Ext.trans ?_ (by assumption)))))⟩
        · obtain rfl : vb = 0 := by omega
          go_wp2_with (go_at_call 34; (with_reducible refine (between_is _ _ _ _ hr _).mono ?_); rintro e w' ⟨rfl, rfl⟩)
          go_region
          all_goals
            go_wp2
            exact bodyPost_ret (v := .tuple #[.agg #[.slice none 0 0, .slice none 0 0], .int .i64 6]) (by simp [results, Try.results14, go_sem, *]) rfl ⟨none, 0, 0, none, 0, 0, rfl, PassR.nil _ _ _, (by with_reducible (repeat (first | exact Ext.refl _ | apply Ext.drewN | apply Ext.drew | apply Ext.alloc | (refine Ext.set ?_ (by first | (simp; done) | (simp; omega) | omega) _) | (refine Ext.trans ?_ (by assumption)))))⟩
      · have HX2 : Hid (exj ts us (i : Int) = (ts.set i (vb, !pb), us.set i (va, !pa), 0)) := by show _ = _; rw [HX.out, if_neg hz]
        rw [HX2.out]
        have hz1' : ¬ va = 0 := fun h => hz (.inl h)
        have hz2' : ¬ vb = 0 := fun h => hz (.inr h)
        have hz1b : (va == 0) = false := beq_eq_false_iff_ne.2 hz1'
        have hz2b : (vb == 0) = false := beq_eq_false_iff_ne.2 hz2'
        clear hz hz1' hz2'
        go_enter Try.func14, Try.ntmps14
        go_wp2_with fail
        (with_reducible refine (ValidPassing_any _ _ m _ m _ ts us _ (hI.ext (by with_reducible (repeat (first | exact Ext.refl _ | apply Ext.drewN | apply Ext.drew | apply Ext.alloc | (refine Ext.set ?_ (by first | (simp; done) | (simp; omega) | omega) _) | (refine Ext.trans ?_ (by assumption)))))) (hJ.ext (by with_reducible (repeat (first | exact Ext.refl _ | apply Ext.drewN | apply Ext.drew | apply Ext.alloc | (refine Ext.set ?_ (by first | (simp; done) | (simp; omega) | omega) _) | (refine Ext.trans ?_ (by assumption))))))).mono ?_)
        rw [hv]
        rintro e w1 ⟨rfl, hx1⟩
        have hz1 := hx1.size
        (try simp at hz1)
        have q0 : w.heap.size + 1 < w1.heap.size := by omega
        have q00 : w.heap.size < w1.heap.size := by omega
        have q01 : w.heap.size + 1 < w1.heap.size + 1 := by omega
        have q02 : w.heap.size < w1.heap.size + 1 := by omega
        have q03 : w.heap.size < w1.heap.size + 1 + 1 := by omega
        have q04 : w.heap.size + 1 < w1.heap.size + 1 + 1 := by omega
        have k1 : ∀ o, w1.cell? ⟨w.heap.size + 1, o, none⟩ = _ := fun o => hx1.cells.1 _ o (by first | (simp; done) | (simp; omega) | omega)
        have f1 : ∀ o, w1.frozen? ⟨w.heap.size + 1, o, none⟩ = _ := fun o => hx1.cells.2 _ o (by first | (simp; done) | (simp; omega) | omega)
        have k0 : ∀ o, w1.cell? ⟨w.heap.size, o, none⟩ = _ := fun o => hx1.cells.1 _ o (by first | (simp; done) | (simp; omega) | omega)
        have hE1 : Ext w w1 := Ext.trans (by with_reducible (repeat (first | exact Ext.refl _ | apply Ext.drewN | apply Ext.drew | apply Ext.alloc | (refine Ext.set ?_ (by first | (simp; done) | (simp; omega) | omega) _) | (refine Ext.trans ?_ (by assumption))))) hx1
        clear hx1
        have a0' := hE1.cell hla a0
        have a1' := hE1.cell hla a1
        have b0' := hE1.cell hlb b0
        have b1' := hE1.cell hlb b1
        have la1 : ba < w1.heap.size := by omega
        have lb1 : bb < w1.heap.size := by omega
        have la2 : ba < w1.heap.size + 1 := by omega
        have lb2 : bb < w1.heap.size + 1 := by omega
        go_wp2_with (go_at_call 34; (with_reducible refine (between_is _ _ _ _ hr _).mono ?_); rintro e w' ⟨rfl, rfl⟩)
        go_region
        all_goals
          go_wp2_with fail
          (with_reducible refine (copied_any _ _ m _ m _ ts us _ (hI.ext (by with_reducible (repeat (first | exact Ext.refl _ | apply Ext.drewN | apply Ext.drew | apply Ext.alloc | (refine Ext.set ?_ (by first | (simp; done) | (simp; omega) | omega) _) | (refine Ext.trans ?_ (by assumption)))))) (hJ.ext (by with_reducible (repeat (first | exact Ext.refl _ | apply Ext.drewN | apply Ext.drew | apply Ext.alloc | (refine Ext.set ?_ (by first | (simp; done) | (simp; omega) | omega) _) | (refine Ext.trans ?_ (by assumption)))))) (by omega) (by omega)).mono ?_)
          rintro e w2 ⟨A1, c1, B1, d1, rfl, R, hx2⟩
          have HR : Hid (PassR w2 (w1.heap.size + 1 + 1) w2.heap.size A1 m c1 B1 m d1 ts us) := by show PassR _ _ _ _ _ _ _ _ _ _ _; simpa using R
          clear R
          have hz2 : w1.heap.size + 1 + 1 ≤ w2.heap.size := by simpa using hx2.size
          obtain ⟨ga, rfl, ga1, ga2, ga3⟩ := HR.out.a.form (by omega)
          obtain ⟨gb, rfl, gb1, gb2, gb3⟩ := HR.out.b.form (by omega)
          have hne : ¬ ga = gb := fun e => HR.out.ne ga rfl (by rw [e]; rfl)
          have hne2 : ¬ gb = ga := fun e => hne e.symm
          obtain ⟨ca0, ca1, fa0, fa1⟩ := HR.out.a.cells him
          obtain ⟨cb0, cb1, fb0, fb1⟩ := HR.out.b.cells him
          have m1 : ∀ o, w2.cell? ⟨w.heap.size + 1, o, none⟩ = _ := fun o => hx2.cells.1 _ o (by first | (simp; done) | (simp; omega) | omega)
          have n1 : ∀ o, w2.frozen? ⟨w.heap.size + 1, o, none⟩ = _ := fun o => hx2.cells.2 _ o (by first | (simp; done) | (simp; omega) | omega)
          have ma : ∀ o, w2.cell? ⟨w1.heap.size, o, none⟩ = _ := fun o => hx2.cells.1 _ o (by first | (simp; done) | (simp; omega) | omega)
          have mb : ∀ o, w2.cell? ⟨w1.heap.size + 1, o, none⟩ = _ := fun o => hx2.cells.1 _ o (by first | (simp; done) | (simp; omega) | omega)
          have r1 : w.heap.size + 1 < w2.heap.size := by omega
          have r2 : w1.heap.size < w2.heap.size := by omega
          have r3 : w1.heap.size + 1 < w2.heap.size := by omega
          have s1 : w.heap.size + 1 < ga := by omega
          have s2 : w1.heap.size < ga := by omega
          have s3 : w1.heap.size + 1 < ga := by omega
          have t1 : w.heap.size + 1 < gb := by omega
          have t2 : w1.heap.size < gb := by omega
          have t3 : w1.heap.size + 1 < gb := by omega
          have hE2 : Ext w w2 := Ext.trans (by with_reducible (repeat (first | exact Ext.refl _ | apply Ext.drewN | apply Ext.drew | apply Ext.alloc | (refine Ext.set ?_ (by first | (simp; done) | (simp; omega) | omega) _) | (refine Ext.trans ?_ (by assumption))))) hx2
          clear hx2
          go_wp2
          refine bodyPost_ret (v := .tuple #[.agg #[.slice (some ⟨ga, 0, none⟩) m c1, .slice (some ⟨gb, 0, none⟩) m d1], .int .i64 0]) (by simp [results, Try.results14, go_sem, *]) rfl ⟨_, _, _, _, _, _, rfl, ?_, (by with_reducible (repeat (first | exact Ext.refl _ | apply Ext.drewN | apply Ext.drew | apply Ext.alloc | (refine Ext.set ?_ (by first | (simp; done) | (simp; omega) | omega) _) | (refine Ext.trans ?_ (by assumption)))))⟩
          exact ((((HR.out.exch him him _ _ _ _).far (p := ⟨w.heap.size + 1, 0, none⟩) (.inl (by simp; omega)) _).far (p := ⟨w.heap.size + 1, 1, none⟩) (.inl (by simp; omega)) _).ext (by with_reducible (repeat (first | exact Ext.refl _ | apply Ext.drewN | apply Ext.drew | apply Ext.alloc | (refine Ext.set ?_ (by first | (simp; done) | (simp; omega) | omega) _) | (refine Ext.trans ?_ (by assumption)))))).wide (by omega) (by simp [World.setCell])
end Go.Proofs.Ytlalaomimfdepaa
