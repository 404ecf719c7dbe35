/- The canonical ones of the patterns that are listed: ListNecklaces, both sides. No condition but the stated bounds. -/
import Derived.Test.YtbldhfmhipdniaaLpb
import Derived.Test.YtbldhfmhipdniaaCnx
namespace Go.Proofs.Ytbldhfmhipdniaa
set_option linter.unusedVariables false
set_option linter.unusedSimpArgs false
open Go.RowKit Go.Joins

theorem row_cap {w : World} {lo hi : Nat} {e : TypeId} {m : Nat} {A : Option Addr} {n c : Nat} {xs : List Int} (h : Row w lo hi e m A n c xs) : n ≤ c := by
  rcases h.own.2 with ⟨ev, _⟩ | ⟨g, cap, cur, ev, _, _, hc, _⟩
  · simp only [Value.slice.injEq] at ev; omega
  · simp only [Value.slice.injEq] at ev; omega
/-- The rows that have the property P among the first i, in a slice of the call's own. -/
def Nkl (w1 wr : World) (H : Nat → Option Addr × Nat) (L : List (List Int)) (P : List Int → Bool) (v : Value) (i : Nat) : Prop :=
  ∃ (cs : List Value) (f : Nat → Nat), OwnG 30 1 w1 wr v ((L.take i).filter P).length cs ∧ (∀ j, j < ((L.take i).filter P).length → f j < i ∧ cs[j]? = some (.slice (H (f j)).1 (ll L (f j)).length (H (f j)).2) ∧ ll ((L.take i).filter P) j = ll L (f j)) ∧ (∀ j k, j < ((L.take i).filter P).length → k < ((L.take i).filter P).length → j ≠ k → f j ≠ f k)
section
variable {w0 w1 wr wr' : World} {H : Nat → Option Addr × Nat} {L : List (List Int)} {P : List Int → Bool} {v : Value} {i : Nat}
theorem take_next (hi : i < L.length) : L.take (i + 1) = L.take i ++ [ll L i] := by
  rw [List.take_add_one]
  unfold ll
  rw [List.getElem?_eq_getElem hi]
  rfl
theorem Nkl.forms (h : Nkl w1 wr H L P v i) : ∃ A c, v = .slice A ((L.take i).filter P).length c := by
  obtain ⟨cs, f, h1, _⟩ := h
  exact h1.forms
theorem Nkl.after (h : Nkl w1 wr H L P v i) (k : Ext wr wr') : Nkl w1 wr' H L P v i := by
  obtain ⟨cs, f, h1, h2, h3⟩ := h
  exact ⟨cs, f, h1.trans k, h2, h3⟩
theorem Nkl.skip (h : Nkl w1 wr H L P v i) (hi : i < L.length) (hp : P (ll L i) = false) : Nkl w1 wr H L P v (i + 1) := by
  obtain ⟨cs, f, h1, h2, h3⟩ := h
  have e : (L.take (i + 1)).filter P = (L.take i).filter P := by rw [take_next hi, List.filter_append]; simp [hp]
  unfold Nkl
  rw [e]
  exact ⟨cs, f, h1, fun j hj => ⟨by have := (h2 j hj).1; omega, (h2 j hj).2⟩, h3⟩
theorem Nkl.push {cs : List Value} {f : Nat → Nat} {m : Nat} (hm : ((L.take i).filter P).length = m) (h2 : ∀ j, j < m → f j < i ∧ cs[j]? = some (.slice (H (f j)).1 (ll L (f j)).length (H (f j)).2) ∧ ll ((L.take i).filter P) j = ll L (f j)) (h3 : ∀ j k, j < m → k < m → j ≠ k → f j ≠ f k) (hl : cs.length = m) (hi : i < L.length) (hp : P (ll L i) = true)
    (h1 : OwnG 30 1 w1 wr' v (m + 1) (cs ++ [.slice (H i).1 (ll L i).length (H i).2])) : Nkl w1 wr' H L P v (i + 1) := by
  have e : (L.take (i + 1)).filter P = (L.take i).filter P ++ [ll L i] := by rw [take_next hi, List.filter_append]; simp [hp]
  unfold Nkl
  rw [e]
  refine ⟨_, upd f m i, by rw [List.length_append, hm]; exact h1, fun j hj => ?_, fun j k hj hk hne => ?_⟩
  · rw [List.length_append, hm, List.length_singleton] at hj
    by_cases ej : j = m
    · subst ej
      rw [upd_self]
      refine ⟨by omega, by rw [← hl]; simp, ?_⟩
      unfold ll
      rw [List.getElem?_append_right (by omega), hm]
      simp
    · rw [upd_ne _ _ ej]
      obtain ⟨a1, a2, a3⟩ := h2 j (by omega)
      refine ⟨by omega, by rw [List.getElem?_append_left (by omega)]; exact a2, ?_⟩
      rw [← a3]
      unfold ll
      rw [List.getElem?_append_left (by omega)]
  · rw [List.length_append, hm, List.length_singleton] at hj hk
    by_cases ej : j = m
    · by_cases ek : k = m
      · omega
      · subst ej
        rw [upd_self, upd_ne _ _ ek]
        have := (h2 k (by omega)).1
        omega
    · by_cases ek : k = m
      · subst ek
        rw [upd_self, upd_ne _ _ ej]
        have := (h2 j (by omega)).1
        omega
      · rw [upd_ne _ _ ej, upd_ne _ _ ek]
        exact h3 j k (by omega) (by omega) hne
theorem Nkl.done {A A' : Option Addr} {c c' m : Nat} (h : Nkl w1 wr H L P (.slice A' m c') L.length) (hF : LRowF w1 w0.heap.size w1.heap.size A L.length c H (ll L)) (hx : Ext w0 w1) : LRow wr w0.heap.size wr.heap.size A' (L.filter P).length c' (L.filter P) ∧ m = (L.filter P).length := by
  obtain ⟨cs, f, h1, h2, h3⟩ := h
  rw [List.take_length] at h1 h2 h3
  obtain ⟨A2, c2, e⟩ := h1.forms
  simp only [Value.slice.injEq] at e
  obtain ⟨rfl, rfl, rfl⟩ := e
  have hz := hx.size
  have hzr := h1.ext.size
  refine ⟨⟨rfl, fun j => H (f j), ⟨cs, h1.row.lower hz, fun j hj => ?_⟩, fun j hj => ?_, fun j k hj hk hne => hF.apart _ _ (h2 j hj).1 (h2 k hk).1 (h3 j k hj hk hne), fun j hj g hg e2 => ?_⟩, rfl⟩
  · obtain ⟨a1, a2, a3⟩ := h2 j hj
    rw [a3]; exact a2
  · obtain ⟨a1, a2, a3⟩ := h2 j hj
    rw [a3]
    exact ((hF.rows _ a1).ext h1.ext).wide (Nat.le_refl _) hzr
  · have b1 := (hF.rows _ (h2 j hj).1).row_bd g hg
    have b2 := h1.row.row_bd g e2
    omega
end
def lnP (p : List Int) : Bool := decide (can p = p)
def lnR (a b c : Int) : List (List Int) × Int := if (lstR a b c).2 = 0 then ((lst a b c).filter lnP, 0) else ([], (lstR a b c).2)
theorem RetLL.of {w w' : World} {L L' : List (List Int)} {A : Option Addr} {k : Nat} (e : L' = L) (hx : Ext w w') (h : LRow w' w.heap.size w'.heap.size A L.length k L) (code : Int) : RetLL w L' code (.returned (.tuple #[.slice A L.length k, .int .i64 code])) w' := by
  subst e
  exact ⟨A, k, rfl, hx, h⟩
set_option maxHeartbeats 2000000 in
theorem implListNecklaces_any (a b c : Int) (w : World) : Calls Try.prog 22 #[.int .i64 a, .int .i64 b, .int .i64 c] w (RetLL w (lnR a b c).1 (lnR a b c).2) := by
  by_cases hc : (lstR a b c).2 = 0
  · have HR : Hid (lnR a b c = ((lst a b c).filter lnP, 0)) := if_pos hc
    obtain ⟨_, hb1, hc1, hl, he⟩ := lstR_yes hc
    have HM : Hid (∀ i, i < (lst a b c).length → ((ll (lst a b c) i).length : Int) = b ∧ ∀ y ∈ ll (lst a b c) i, 0 ≤ y ∧ y ≤ c) := fun i hi => lst_mem (by omega) (by omega) (ll_mem hi)
    obtain ⟨L, hL⟩ : ∃ L, lst a b c = L := ⟨_, rfl⟩
    rw [hL] at hl he HM
    have HL := Lib.hid hL
    have HE := Lib.hid he
    clear hL he hc
    go_enter Try.func22, Try.ntmps22
    go_wp2_with fail
    (with_reducible refine (implListPatterns_any a b c _).mono ?_)
    rw [HE.out]
    rintro e w1 ⟨A, k, rfl, hx1, hr1⟩
    obtain ⟨_, H, hF⟩ := hr1
    have HF := Lib.hid hF
    have HX1 : Hid (Ext w w1) := Ext.trans (by with_reducible (repeat (first | exact Ext.refl _ | apply Ext.drewN | apply Ext.drew | apply Ext.alloc | (refine Ext.set ?_ (by first | (simp; done) | (simp; omega) | omega) _) | (refine Ext.trans ?_ (by assumption))))) hx1
    have HX1b := Lib.hid hx1
    have HO1 : Hid (OwnG 30 1 w1 (w1.alloc (.cells #[] 30)) (.slice (some ⟨w1.heap.size, 0, none⟩) 0 0) 0 []) := ownG_empty (Ext.refl _) _ _
    clear hF hx1
    go_wp2
    go_loopw [10, 26] (fun v i wr => ∃ k : Nat, k ≤ L.length ∧ i = .int .i64 k ∧ Ext w1 wr ∧ Hid (Nkl w1 wr H L lnP v k)) (fun _ i _ => L.length - (intOf i).toNat)
    case atStart => exact ⟨0, Nat.zero_le _, rfl, (by with_reducible (repeat (first | exact Ext.refl _ | apply Ext.drewN | apply Ext.drew | apply Ext.alloc | (refine Ext.set ?_ (by first | (simp; done) | (simp; omega) | omega) _) | (refine Ext.trans ?_ (by assumption))))), [], fun _ => 0, HO1.out, fun j hj => by simp at hj, fun j _ hj => by simp at hj⟩
    case round =>
      obtain ⟨i, hi, rfl, hxr, HN⟩ := hrel
      have HXR := Lib.hid hxr
      clear hxr
      by_cases hlt : i < L.length
      · have i1 : (i : Int) < L.length := by omega
        have hFr := HF.out.ext HXR.out
        obtain ⟨g, hA, hg, hg2, hg3⟩ := hFr.form (by omega)
        subst hA
        obtain ⟨c0, c1⟩ := hFr.cells hlt
        have hR := hFr.rows i hlt
        have hm := HM.out i hlt
        have HLN : Hid (1 ≤ (ll L i).length ∧ (ll L i).length ≤ 1000) := by have := hm.1; show _ ∧ _; omega
        have HI : Hid (Ints wr (H i).1 (ll L i).length (ll L i)) := by
          have := hR.ints (by have := HLN.out.2; omega) (fun y hy => by have := hm.2 y hy; omega)
          rwa [Nat.mul_one] at this
        have HC := Lib.hid (row_cap hR)
        have HCB : Hid (∀ y ∈ can (ll L i), -9223372036854775808 ≤ y ∧ y ≤ 9223372036854775807) := fun y hy => by have := hm.2 y (can_mem hy); omega
        clear hFr hR hm
        obtain ⟨v, hv⟩ : ∃ v, decide (can (ll L i) = ll L i) = v := ⟨_, rfl⟩
        have HV := Lib.hid hv
        clear hv
        go_wp2_with fail
        (with_reducible refine (canonical_any _ _ _ (ll L i) _ (HI.out.ext (by with_reducible (repeat (first | exact Ext.refl _ | apply Ext.drewN | apply Ext.drew | apply Ext.alloc | (refine Ext.set ?_ (by first | (simp; done) | (simp; omega) | omega) _) | (refine Ext.trans ?_ (by assumption)))))) HLN.out HC.out).mono ?_)
        rintro e w2 ⟨A2, c2, rfl, hx2, hi2⟩
        have HI2 := Lib.hid hi2
        have HX2 : Hid (Ext wr w2) := Ext.trans (by with_reducible (repeat (first | exact Ext.refl _ | apply Ext.drewN | apply Ext.drew | apply Ext.alloc | (refine Ext.set ?_ (by first | (simp; done) | (simp; omega) | omega) _) | (refine Ext.trans ?_ (by assumption))))) hx2
        clear hi2 hx2
        go_wp2_with fail
        (with_reducible refine (sameNumbers_is _ _ _ _ _ _ (can (ll L i)) (ll L i) _ (HI2.out.ext (by with_reducible (repeat (first | exact Ext.refl _ | apply Ext.drewN | apply Ext.drew | apply Ext.alloc | (refine Ext.set ?_ (by first | (simp; done) | (simp; omega) | omega) _) | (refine Ext.trans ?_ (by assumption)))))) (HI.out.ext (HX2.out.trans (by with_reducible (repeat (first | exact Ext.refl _ | apply Ext.drewN | apply Ext.drew | apply Ext.alloc | (refine Ext.set ?_ (by first | (simp; done) | (simp; omega) | omega) _) | (refine Ext.trans ?_ (by assumption))))))) _ HV.out).mono ?_)
        rintro e w3 ⟨rfl, q3, rfl⟩
        have HX3 : Hid (Ext wr (w2.drewN q3)) := HX2.out.trans ((Ext.refl _).drewN q3)
        have hgl : g < wr.heap.size := hg
        have c2b : (w2.drewN q3).cell? ⟨g, i, none⟩ = some (.slice (H i).1 (ll L i).length (H i).2) := HX3.out.cell hgl c0
        cases v
        ·
          go_wp2
          go_roundw
          case rel => exact ⟨i + 1, by omega, by go_num, HXR.out.trans (HX3.out.trans (by with_reducible (repeat (first | exact Ext.refl _ | apply Ext.drewN | apply Ext.drew | apply Ext.alloc | (refine Ext.set ?_ (by first | (simp; done) | (simp; omega) | omega) _) | (refine Ext.trans ?_ (by assumption)))))), Lib.hid ((HN.out.after (HX3.out.trans (by with_reducible (repeat (first | exact Ext.refl _ | apply Ext.drewN | apply Ext.drew | apply Ext.alloc | (refine Ext.set ?_ (by first | (simp; done) | (simp; omega) | omega) _) | (refine Ext.trans ?_ (by assumption))))))).skip hlt HV.out)⟩
          case measure => simp [intOf]; omega
        · have HN2 := Lib.hid (HN.out.after HX3.out)
          obtain ⟨cs, f, ho, h2, h3⟩ := HN2.out
          have HO := Lib.hid ho
          have H2 := Lib.hid h2
          have H3 := Lib.hid h3
          have hcl : ((L.take i).filter lnP).length ≤ 1000000 := Nat.le_trans (List.length_filter_le _ _) (by rw [List.length_take]; omega)
          have HCL : Hid (cs.length = ((L.take i).filter lnP).length) := by have := ho.own.1; rwa [Nat.mul_one] at this
          clear ho h2 h3 HN2
          go_wp2_with (at_builtin; refine appG elRow (by omega) rfl _ _ Try.underlying25 rfl rfl (HO.out.trans (by with_reducible (repeat (first | exact Ext.refl _ | apply Ext.drewN | apply Ext.drew | apply Ext.alloc | (refine Ext.set ?_ (by first | (simp; done) | (simp; omega) | omega) _) | (refine Ext.trans ?_ (by assumption)))))) hcl rfl (heap_alloc_new _ _) (ys := [.slice (H i).1 (ll L i).length (H i).2]) rfl (by rfl) (by intro u hu; simp at hu; subst hu; rfl) ?_; intro v5 w5 ho5; have HO5 := Lib.hid ho5; clear ho5)
          go_roundw
          case rel => exact ⟨i + 1, by omega, by go_num, HO5.out.ext, Nkl.push rfl H2.out H3.out HCL.out hlt HV.out HO5.out⟩
          case measure => simp [intOf]; omega
      · obtain rfl : i = L.length := by omega
        obtain ⟨A2, c2, rfl⟩ := HN.out.forms
        have Himpl.ListNecklaces : Hid (RetLL w (lnR a b c).1 (lnR a b c).2 (.returned (.tuple #[.slice A2 ((L.take L.length).filter lnP).length c2, .int .i64 0])) wr) := by
          have h1 := (HN.out.done HF.out HX1b.out).1
          rw [HR.out, HL.out, List.take_length]
          exact RetLL.of rfl (HX1.out.trans HXR.out) h1 0
        go_wp2
        go_ret2
        exact Himpl.ListNecklaces.out
  · have HR : Hid (lnR a b c = ([], (lstR a b c).2)) := if_neg hc
    have HN : Hid ((lstR a b c).1 = []) := lstR_no hc
    obtain ⟨x, hx⟩ : ∃ x, (lstR a b c).2 = x := ⟨_, rfl⟩
    rw [hx] at hc HR
    have HX := Lib.hid hx
    have hx2 : (x == 0) = false := by simpa using hc
    have hx3 : (x != 0) = true := by simpa using hc
    clear hx hc
    go_enter Try.func22, Try.ntmps22
    go_wp2_with fail
    (with_reducible refine (implListPatterns_any a b c _).mono ?_)
    rw [HN.out, HX.out]
    rintro e w1 ⟨A, k, rfl, hx1, hr1⟩
    have HX1 := Lib.hid hx1
    clear hx1 hr1
    go_wp2
    go_ret2
    rw [HR.out]
    exact RetLL.bare HX1.out x
set_option maxHeartbeats 2000000 in
theorem specListNecklaces_any (a b c : Int) (w : World) : Calls Try.prog 15 #[.int .i64 a, .int .i64 b, .int .i64 c] w (RetLL w (lnR a b c).1 (lnR a b c).2) := by
  by_cases hc : (lstR a b c).2 = 0
  · have HR : Hid (lnR a b c = ((lst a b c).filter lnP, 0)) := if_pos hc
    obtain ⟨_, hb1, hc1, hl, he⟩ := lstR_yes hc
    have HM : Hid (∀ i, i < (lst a b c).length → ((ll (lst a b c) i).length : Int) = b ∧ ∀ y ∈ ll (lst a b c) i, 0 ≤ y ∧ y ≤ c) := fun i hi => lst_mem (by omega) (by omega) (ll_mem hi)
    obtain ⟨L, hL⟩ : ∃ L, lst a b c = L := ⟨_, rfl⟩
    rw [hL] at hl he HM
    have HL := Lib.hid hL
    have HE := Lib.hid he
    clear hL he hc
    go_enter Try.func15, Try.ntmps15
    go_wp2_with fail
    (with_reducible refine (l12List_any a b c _).mono ?_)
    rw [HE.out]
    rintro e w1 ⟨A, k, rfl, hx1, hr1⟩
    obtain ⟨_, H, hF⟩ := hr1
    have HF := Lib.hid hF
    have HX1 : Hid (Ext w w1) := Ext.trans (by with_reducible (repeat (first | exact Ext.refl _ | apply Ext.drewN | apply Ext.drew | apply Ext.alloc | (refine Ext.set ?_ (by first | (simp; done) | (simp; omega) | omega) _) | (refine Ext.trans ?_ (by assumption))))) hx1
    have HX1b := Lib.hid hx1
    have HO1 : Hid (OwnG 30 1 w1 (w1.alloc (.cells #[] 30)) (.slice (some ⟨w1.heap.size, 0, none⟩) 0 0) 0 []) := ownG_empty (Ext.refl _) _ _
    clear hF hx1
    go_wp2
    go_loopw [10, 11] (fun v i wr => ∃ k : Nat, k ≤ L.length ∧ i = .int .i64 k ∧ Ext w1 wr ∧ Hid (Nkl w1 wr H L lnP v k)) (fun _ i _ => L.length - (intOf i).toNat)
    case atStart => exact ⟨0, Nat.zero_le _, rfl, (by with_reducible (repeat (first | exact Ext.refl _ | apply Ext.drewN | apply Ext.drew | apply Ext.alloc | (refine Ext.set ?_ (by first | (simp; done) | (simp; omega) | omega) _) | (refine Ext.trans ?_ (by assumption))))), [], fun _ => 0, HO1.out, fun j hj => by simp at hj, fun j _ hj => by simp at hj⟩
    case round =>
      obtain ⟨i, hi, rfl, hxr, HN⟩ := hrel
      have HXR := Lib.hid hxr
      clear hxr
      by_cases hlt : i < L.length
      · have i1 : (i : Int) < L.length := by omega
        have hFr := HF.out.ext HXR.out
        obtain ⟨g, hA, hg, hg2, hg3⟩ := hFr.form (by omega)
        subst hA
        obtain ⟨c0, c1⟩ := hFr.cells hlt
        have hR := hFr.rows i hlt
        have hm := HM.out i hlt
        have HLN : Hid (1 ≤ (ll L i).length ∧ (ll L i).length ≤ 1000) := by have := hm.1; show _ ∧ _; omega
        have HI : Hid (Ints wr (H i).1 (ll L i).length (ll L i)) := by
          have := hR.ints (by have := HLN.out.2; omega) (fun y hy => by have := hm.2 y hy; omega)
          rwa [Nat.mul_one] at this
        have HC := Lib.hid (row_cap hR)
        have HCB : Hid (∀ y ∈ can (ll L i), -9223372036854775808 ≤ y ∧ y ≤ 9223372036854775807) := fun y hy => by have := hm.2 y (can_mem hy); omega
        clear hFr hR hm
        obtain ⟨v, hv⟩ : ∃ v, decide (can (ll L i) = ll L i) = v := ⟨_, rfl⟩
        have HV := Lib.hid hv
        clear hv
        go_upto_region 8 with fail
        refine wp_region_held_drew (S := Holds [(⟨g, i, none⟩, .slice (H i).1 (ll L i).length (H i).2), (⟨g, i, none⟩, .slice (H i).1 (ll L i).length (H i).2)]) (by kernel_rfl) (by (simp only [Holds_cons, Holds_nil, and_true]); exact ⟨c0, c0⟩) (fun hHeld => ?_)
        refine wpAnyH_take (i := 0) (v := ?_) rfl (by kernel_rfl) (by kernel_rfl) (by kernel_rfl) (fun _ _ _ h => h) (Or.inl ⟨by rfl, ?hyh1⟩) hHeld ?_
        case hyh1 => ((intro wz hSw); (simp only [Holds_cons, Holds_nil, and_true] at hSw); (obtain ⟨_, _⟩ := hSw); go_simp; (try with_reducible rfl))
        (try simp only [List.getElem_toArray, List.getElem_cons_succ, List.getElem_cons_zero, Act.put, List.setIfInBounds_toArray, List.set_cons_zero, List.set_cons_succ])
        refine wpAnyH_take (i := 1) (v := ?_) rfl (by kernel_rfl) (by kernel_rfl) (by kernel_rfl) (fun _ _ _ h => h) (Or.inl ⟨by rfl, ?hyh2⟩) hHeld ?_
        case hyh2 => ((intro wz hSw); (simp only [Holds_cons, Holds_nil, and_true] at hSw); (obtain ⟨_, _⟩ := hSw); go_simp; (try with_reducible rfl))
        (try simp only [List.getElem_toArray, List.getElem_cons_succ, List.getElem_cons_zero, Act.put, List.setIfInBounds_toArray, List.set_cons_zero, List.set_cons_succ])
        refine wpAnyH_take (i := 2) (v := ?_) rfl (by kernel_rfl) (by kernel_rfl) (by kernel_rfl) (fun _ _ _ h => h) (Or.inl ⟨by rfl, ?hyh3⟩) hHeld ?_
        case hyh3 => ((intro wz hSw); (simp only [Holds_cons, Holds_nil, and_true] at hSw); (obtain ⟨_, _⟩ := hSw); go_simp; (try with_reducible rfl))
        (try simp only [List.getElem_toArray, List.getElem_cons_succ, List.getElem_cons_zero, Act.put, List.setIfInBounds_toArray, List.set_cons_zero, List.set_cons_succ])
        refine wpAnyH_take (i := 3) (v := ?_) rfl (by kernel_rfl) (by kernel_rfl) (by kernel_rfl) (fun _ _ _ h => h) (Or.inl ⟨by rfl, ?hyh4⟩) hHeld ?_
        case hyh4 => ((intro wz hSw); (simp only [Holds_cons, Holds_nil, and_true] at hSw); (obtain ⟨_, _⟩ := hSw); go_simp; (try with_reducible rfl))
        (try simp only [List.getElem_toArray, List.getElem_cons_succ, List.getElem_cons_zero, Act.put, List.setIfInBounds_toArray, List.set_cons_zero, List.set_cons_succ])
        refine wpAnyH_take (i := 5) (v := ?_) rfl (by kernel_rfl) (by kernel_rfl) (by kernel_rfl) (fun _ _ _ h => h) (Or.inl ⟨by rfl, ?hyh5⟩) hHeld ?_
        case hyh5 => ((intro wz hSw); (simp only [Holds_cons, Holds_nil, and_true] at hSw); (obtain ⟨_, _⟩ := hSw); go_simp; (try with_reducible rfl))
        (try simp only [List.getElem_toArray, List.getElem_cons_succ, List.getElem_cons_zero, Act.put, List.setIfInBounds_toArray, List.set_cons_zero, List.set_cons_succ])
        refine wpAnyH_take (i := 6) (v := ?_) rfl (by kernel_rfl) (by kernel_rfl) (by kernel_rfl) (fun _ _ _ h => h) (Or.inl ⟨by rfl, ?hyh6⟩) hHeld ?_
        case hyh6 => ((intro wz hSw); (simp only [Holds_cons, Holds_nil, and_true] at hSw); (obtain ⟨_, _⟩ := hSw); go_simp; (try with_reducible rfl))
        (try simp only [List.getElem_toArray, List.getElem_cons_succ, List.getElem_cons_zero, Act.put, List.setIfInBounds_toArray, List.set_cons_zero, List.set_cons_succ])
        refine wpAnyH_take (i := 7) (v := ?_) rfl (by kernel_rfl) (by kernel_rfl) (by kernel_rfl) (fun _ _ _ h => h) (Or.inl ⟨by rfl, ?hyh7⟩) hHeld ?_
        case hyh7 => ((intro wz hSw); (simp only [Holds_cons, Holds_nil, and_true] at hSw); (obtain ⟨_, _⟩ := hSw); go_simp; (try with_reducible rfl))
        (try simp only [List.getElem_toArray, List.getElem_cons_succ, List.getElem_cons_zero, Act.put, List.setIfInBounds_toArray, List.set_cons_zero, List.set_cons_succ])
        refine wpAnyH_take (i := 8) (v := ?_) rfl (by kernel_rfl) (by kernel_rfl) (by kernel_rfl) (fun _ _ _ h => h) (Or.inl ⟨by rfl, ?hyh8⟩) hHeld ?_
        case hyh8 => ((intro wz hSw); (simp only [Holds_cons, Holds_nil, and_true] at hSw); (obtain ⟨_, _⟩ := hSw); go_simp; (try with_reducible rfl))
        (try simp only [List.getElem_toArray, List.getElem_cons_succ, List.getElem_cons_zero, Act.put, List.setIfInBounds_toArray, List.set_cons_zero, List.set_cons_succ])
        refine wpAnyH_ready (rs := [4]) (by kernel_rfl) (by simp) ?_
        refine AllReadyH.cons rfl (fun K hK => ?_) AllReadyH.nil
        go_simp
        (with_reducible refine (l03Canon_any _ _ _ (ll L i) _ (HI.out.ext ((Ext.refl wr).drew)) HLN.out HC.out).mono ?_)
        rintro e w2 ⟨A2, c2, rfl, hx2, hi2⟩
        (try go_wp2_with fail)
        have HI2 := Lib.hid hi2
        have HX2 : Hid (Ext wr w2) := Ext.trans (show Ext wr wr.drew from (Ext.refl _).drew) hx2
        refine hK.out _ _ (fun c hc => (Below.cell HX2.out (World.block_lt_of_cell? _ c.1 (hHeld c hc))).trans (hHeld c hc)) (fun hHeldN => ?_)
        clear hK K hHeld
        have hHeld := hHeldN
        clear hHeldN
        (try simp only [List.getElem_toArray, List.getElem_cons_succ, List.getElem_cons_zero, Act.put, List.setIfInBounds_toArray, List.set_cons_zero, List.set_cons_succ])
        refine wpAnyH_ready (rs := [9]) (by kernel_rfl) (by simp) ?_
        refine AllReadyH.cons rfl (fun K hK => ?_) AllReadyH.nil
        go_simp
        (with_reducible refine (l00SameN_is _ _ _ _ _ _ (can (ll L i)) (ll L i) _ HI2.out (HI.out.ext HX2.out) _ HV.out).mono ?_)
        rintro e w3 ⟨rfl, q3, rfl⟩
        (try go_wp2_with fail)
        refine hK.out _ _ (fun c hc => hHeld c hc) (fun hHeldN => ?_)
        clear hK K hHeld
        have hHeld := hHeldN
        clear hHeldN
        (try simp only [List.getElem_toArray, List.getElem_cons_succ, List.getElem_cons_zero, Act.put, List.setIfInBounds_toArray, List.set_cons_zero, List.set_cons_succ])
        refine wpAnyH_done (by kernel_rfl) ?_ _
        clear hHeld hx2 hi2
        have HX3 : Hid (Ext wr (w2.drewN q3)) := HX2.out.trans ((Ext.refl _).drewN q3)
        have hgl : g < wr.heap.size := hg
        have c2b : (w2.drewN q3).cell? ⟨g, i, none⟩ = some (.slice (H i).1 (ll L i).length (H i).2) := HX3.out.cell hgl c0
        cases v
        ·
          go_wp2
          go_roundw
          case rel => exact ⟨i + 1, by omega, by go_num, HXR.out.trans (HX3.out.trans (by with_reducible (repeat (first | exact Ext.refl _ | apply Ext.drewN | apply Ext.drew | apply Ext.alloc | (refine Ext.set ?_ (by first | (simp; done) | (simp; omega) | omega) _) | (refine Ext.trans ?_ (by assumption)))))), Lib.hid ((HN.out.after (HX3.out.trans (by with_reducible (repeat (first | exact Ext.refl _ | apply Ext.drewN | apply Ext.drew | apply Ext.alloc | (refine Ext.set ?_ (by first | (simp; done) | (simp; omega) | omega) _) | (refine Ext.trans ?_ (by assumption))))))).skip hlt HV.out)⟩
          case measure => simp [intOf]; omega
        · have HN2 := Lib.hid (HN.out.after HX3.out)
          obtain ⟨cs, f, ho, h2, h3⟩ := HN2.out
          have HO := Lib.hid ho
          have H2 := Lib.hid h2
          have H3 := Lib.hid h3
          have hcl : ((L.take i).filter lnP).length ≤ 1000000 := Nat.le_trans (List.length_filter_le _ _) (by rw [List.length_take]; omega)
          have HCL : Hid (cs.length = ((L.take i).filter lnP).length) := by have := ho.own.1; rwa [Nat.mul_one] at this
          clear ho h2 h3 HN2
          go_wp2_with (at_builtin; refine appG elRow (by omega) rfl _ _ Try.underlying25 rfl rfl (HO.out.trans (by with_reducible (repeat (first | exact Ext.refl _ | apply Ext.drewN | apply Ext.drew | apply Ext.alloc | (refine Ext.set ?_ (by first | (simp; done) | (simp; omega) | omega) _) | (refine Ext.trans ?_ (by assumption)))))) hcl rfl (heap_alloc_new _ _) (ys := [.slice (H i).1 (ll L i).length (H i).2]) rfl (by rfl) (by intro u hu; simp at hu; subst hu; rfl) ?_; intro v5 w5 ho5; have HO5 := Lib.hid ho5; clear ho5)
          go_roundw
          case rel => exact ⟨i + 1, by omega, by go_num, HO5.out.ext, Nkl.push rfl H2.out H3.out HCL.out hlt HV.out HO5.out⟩
          case measure => simp [intOf]; omega
      · obtain rfl : i = L.length := by omega
        obtain ⟨A2, c2, rfl⟩ := HN.out.forms
        have Hspec.ListNecklaces : Hid (RetLL w (lnR a b c).1 (lnR a b c).2 (.returned (.tuple #[.slice A2 ((L.take L.length).filter lnP).length c2, .int .i64 0])) wr) := by
          have h1 := (HN.out.done HF.out HX1b.out).1
          rw [HR.out, HL.out, List.take_length]
          exact RetLL.of rfl (HX1.out.trans HXR.out) h1 0
        go_wp2
        go_ret2
        exact Hspec.ListNecklaces.out
  · have HR : Hid (lnR a b c = ([], (lstR a b c).2)) := if_neg hc
    have HN : Hid ((lstR a b c).1 = []) := lstR_no hc
    obtain ⟨x, hx⟩ : ∃ x, (lstR a b c).2 = x := ⟨_, rfl⟩
    rw [hx] at hc HR
    have HX := Lib.hid hx
    have hx2 : (x == 0) = false := by simpa using hc
    have hx3 : (x != 0) = true := by simpa using hc
    clear hx hc
    go_enter Try.func15, Try.ntmps15
    go_wp2_with fail
    (with_reducible refine (l12List_any a b c _).mono ?_)
    rw [HN.out, HX.out]
    rintro e w1 ⟨A, k, rfl, hx1, hr1⟩
    have HX1 := Lib.hid hx1
    clear hx1 hr1
    go_wp2
    go_ret2
    rw [HR.out]
    exact RetLL.bare HX1.out x
end Go.Proofs.Ytbldhfmhipdniaa
