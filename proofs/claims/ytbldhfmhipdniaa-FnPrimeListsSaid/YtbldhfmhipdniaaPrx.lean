/- Prf Prg in one text (a claim has at most 60 files). No condition but the stated bounds. -/
import Derived.Test.YtbldhfmhipdniaaSrt
import Derived.Test.YtbldhfmhipdniaaStx
import Derived.Test.YtbldhfmhipdniaaLnc
import Derived.Test.YtbldhfmhipdniaaLsv
import Derived.Test.YtbldhfmhipdniaaEvx
import Derived.Test.YtbldhfmhipdniaaA2a
namespace Go.Proofs.Ytbldhfmhipdniaa
set_option linter.unusedVariables false
set_option linter.unusedSimpArgs false
open Go.ChangeShapes Go.WideShapes Go.ChangeAt Go.RowKit Go.Joins Go.Deep

/-- What IsPrime says of any list. -/
def prmF (xs : List Int) : Bool := vpat xs && decide (hig xs xs.length ≤ 10) && prm xs
theorem implIsPrime_all (A : Option Addr) (n c : Nat) (xs : List Int) (w : World) (hI : Ints w A n xs) :
    Calls Try.prog 42 #[.slice A n c] w fun e w' => e = .returned (.bool (prmF xs)) ∧ Ext w w' := by
  cases hv : vpat xs
  · have HP : Hid (prmF xs = false) := by show _ = _; unfold prmF; rw [hv]; rfl
    have HI := Lib.hid hI
    have HV := Lib.hid hv
    have HL : Hid (∀ W, Ext w W → Calls Try.prog 59 #[.slice A n c] W fun e w' => e = .returned (.bool false) ∧ Ext W w') := fun W k => by
      go_enter Try.func59, Try.ntmps59
      go_wp2_with fail
      (with_reducible refine (ValidPattern_is A n c xs false HV.out _ (HI.out.ext (k.trans (by with_reducible (repeat (first | exact Ext.refl _ | apply Ext.drewN | apply Ext.drew | apply Ext.alloc | (refine Ext.set ?_ (by first | (simp; done) | (simp; omega) | omega) _) | (refine Ext.trans ?_ (by assumption)))))))).mono ?_)
      rintro e w1 ⟨rfl, hx1⟩
      go_wp2
      go_ret
      exact ⟨rfl, Ext.trans (by with_reducible (repeat (first | exact Ext.refl _ | apply Ext.drewN | apply Ext.drew | apply Ext.alloc | (refine Ext.set ?_ (by first | (simp; done) | (simp; omega) | omega) _) | (refine Ext.trans ?_ (by assumption))))) hx1⟩
    clear hv
    go_enter Try.func42, Try.ntmps42
    go_wp2_with fail
    (with_reducible refine (HL.out _ (by with_reducible (repeat (first | exact Ext.refl _ | apply Ext.drewN | apply Ext.drew | apply Ext.alloc | (refine Ext.set ?_ (by first | (simp; done) | (simp; omega) | omega) _) | (refine Ext.trans ?_ (by assumption)))))).mono ?_)
    rintro e w1 ⟨rfl, hx1⟩
    have HX1 : Hid (Ext w w1) := Ext.trans (by with_reducible (repeat (first | exact Ext.refl _ | apply Ext.drewN | apply Ext.drew | apply Ext.alloc | (refine Ext.set ?_ (by first | (simp; done) | (simp; omega) | omega) _) | (refine Ext.trans ?_ (by assumption))))) hx1
    clear hx1
    go_wp2
    go_ret
    exact ⟨ret_bool HP.out.symm, HX1.out⟩
  · by_cases hg : hig xs n ≤ 10
    · have e : prmF xs = prm xs := by unfold prmF; rw [hv, hI.len, decide_eq_true hg]; rfl
      rw [e]
      exact implIsPrime_any A n c xs w hI hv hg
    · have HP : Hid (prmF xs = false) := by show _ = _; unfold prmF; rw [hI.len, decide_eq_false hg]; simp
      have HI := Lib.hid hI
      have HV := Lib.hid hv
      have HL : Hid (∀ W, Ext w W → Calls Try.prog 59 #[.slice A n c] W fun e w' => e = .returned (.bool false) ∧ Ext W w') := fun W k => by
        have hg2 : decide (hig xs n ≤ 10) = false := decide_eq_false hg
        go_enter Try.func59, Try.ntmps59
        go_wp2_with fail
        (with_reducible refine (ValidPattern_is A n c xs true HV.out _ (HI.out.ext (k.trans (by with_reducible (repeat (first | exact Ext.refl _ | apply Ext.drewN | apply Ext.drew | apply Ext.alloc | (refine Ext.set ?_ (by first | (simp; done) | (simp; omega) | omega) _) | (refine Ext.trans ?_ (by assumption)))))))).mono ?_)
        rintro e w1 ⟨rfl, hx1⟩
        have HX1 : Hid (Ext W w1) := Ext.trans (by with_reducible (repeat (first | exact Ext.refl _ | apply Ext.drewN | apply Ext.drew | apply Ext.alloc | (refine Ext.set ?_ (by first | (simp; done) | (simp; omega) | omega) _) | (refine Ext.trans ?_ (by assumption))))) hx1
        clear hx1
        go_wp2_with (first | (go_at_call 74; (with_reducible refine (highest_any _ _ _ xs _ (HI.out.ext (k.trans HX1.out)) HV.out).mono ?_); rintro e w' ⟨rfl, rfl⟩) | fail)
        go_ret
        (try rw [hg2])
        exact ⟨rfl, HX1.out⟩
      clear hv hg
      go_enter Try.func42, Try.ntmps42
      go_wp2_with fail
      (with_reducible refine (HL.out _ (by with_reducible (repeat (first | exact Ext.refl _ | apply Ext.drewN | apply Ext.drew | apply Ext.alloc | (refine Ext.set ?_ (by first | (simp; done) | (simp; omega) | omega) _) | (refine Ext.trans ?_ (by assumption)))))).mono ?_)
      rintro e w1 ⟨rfl, hx1⟩
      have HX1 : Hid (Ext w w1) := Ext.trans (by with_reducible (repeat (first | exact Ext.refl _ | apply Ext.drewN | apply Ext.drew | apply Ext.alloc | (refine Ext.set ?_ (by first | (simp; done) | (simp; omega) | omega) _) | (refine Ext.trans ?_ (by assumption))))) hx1
      clear hx1
      go_wp2
      go_ret
      exact ⟨ret_bool HP.out.symm, HX1.out⟩
/-- The function of primesOf. -/
def P41 (p : List Int) : Bool := prmF p && lnP p
def F41 (o : List (List Int)) (p : List Int) : List (List Int) × Bool := (if P41 p = true then o ++ [p] else o, true)
def Ok41 (k : Nat) (o : List (List Int)) : Prop := o.length + k ≤ 900000
theorem okF41 : OkF F41 Ok41 := ⟨fun k j o h h2 => by unfold Ok41 at *; omega, fun k o p h _ => by
  unfold Ok41 at *
  show (if P41 p = true then o ++ [p] else o).length + k ≤ 900000
  split
  · rw [List.length_append, List.length_singleton]; omega
  · omega⟩
theorem runF41 : ∀ (L o : List (List Int)), runF F41 L o = (o ++ L.filter P41, true)
  | [], o => by simp [runF]
  | p :: L, o => by
    rw [runF_cons, if_pos (show (F41 o p).2 = true from rfl), runF41 L]
    show ((if P41 p = true then o ++ [p] else o) ++ L.filter P41, true) = _
    by_cases h : P41 p = true
    · rw [if_pos h, List.filter_cons_of_pos h, List.append_assoc]; rfl
    · rw [if_neg h, List.filter_cons_of_neg h]
theorem F41_no {o : List (List Int)} {p : List Int} (h : P41 p = false) : F41 o p = (o, true) := by unfold F41; rw [if_neg (by rw [h]; simp)]
theorem F41_yes {o : List (List Int)} {p : List Int} (h : P41 p = true) : F41 o p = (o ++ [p], true) := by unfold F41; rw [if_pos h]
set_option maxHeartbeats 2000000 in
theorem clo41 (n : Nat) (hn1 : 1 ≤ n) : Clo 41 n F41 Ok41 := by
  intro w0 Wb w g q ub h fn U At ct pre out B d lo hi hS hx R h1 h2 hp hn hb hok
  obtain ⟨Ao, co, hst, hC, hq, hgq⟩ := hS
  have HST := Lib.hid hst
  have HC := Lib.hid hC
  have HR := Lib.hid R
  have HIN : Hid (Ints w B pre.length pre) := by
    have := R.ints (by omega) (fun y hy => by have := hb y hy; omega)
    rwa [Nat.mul_one] at this
  have HCAP := Lib.hid (row_cap R)
  have hql := (hst.gl q (by simp)).2
  have hgl := (hst.gl g (by simp)).2
  have HQN : Hid (some q ≠ Ao.map (·.block)) := fun e => by
    obtain ⟨H, hF, h3, h4⟩ := hst.outs
    exact (h4 q e.symm).1 (by simp)
  have HGN : Hid (some g ≠ Ao.map (·.block)) := fun e => by
    obtain ⟨H, hF, h3, h4⟩ := hst.outs
    exact (h4 g e.symm).1 (by simp)
  have HQ0 := Lib.hid hq
  have hxz := hx.size
  have ho : out.length ≤ 900000 := by unfold Ok41 at hok; omega
  have HX := Lib.hid hx
  have HPB := Lib.hid hb
  have hpl1 : 1 ≤ pre.length ∧ pre.length ≤ 1000 := by omega
  have HNO : Hid (∀ W, Ext w W → P41 pre = false → CloOut w0 w g q ub n h fn U At ct pre (F41 out pre) (.returned (.bool true)) W) := fun W k hp' => by
    rw [F41_no hp']
    exact ⟨rfl, (S58at.after ⟨Ao, co, HST.out, HC.out, HQ0.out, hgq⟩ HX.out).after k, Below.block k g (Nat.lt_of_lt_of_le hgl hxz)⟩
  obtain ⟨m, hm⟩ : ∃ m, pre.length = m := ⟨_, rfl⟩
  clear hst hC hq R hx hb hok
  cases hpr : prmF pre
  · have HP1 : Hid (P41 pre = false) := by show _ = _; unfold P41; rw [hpr]; rfl
    have HPR := Lib.hid hpr
    clear hpr hp hm
    go_enter Try.func41, Try.ntmps41
    go_wp2_with fail
    (with_reducible refine (implIsPrime_all B _ d pre _ (HIN.out.ext (by with_reducible (repeat (first | exact Ext.refl _ | apply Ext.drewN | apply Ext.drew | apply Ext.alloc | (refine Ext.set ?_ (by first | (simp; done) | (simp; omega) | omega) _) | (refine Ext.trans ?_ (by assumption))))))).mono ?_)
    rw [HPR.out]
    rintro e w2 ⟨rfl, hx2⟩
    have HX2 : Hid (Ext w w2) := Ext.trans (by with_reducible (repeat (first | exact Ext.refl _ | apply Ext.drewN | apply Ext.drew | apply Ext.alloc | (refine Ext.set ?_ (by first | (simp; done) | (simp; omega) | omega) _) | (refine Ext.trans ?_ (by assumption))))) hx2
    clear hx2
    go_wp2
    go_ret
    exact HNO.out _ HX2.out HP1.out
  · have HPR := Lib.hid hpr
    have HV : Hid (P41 pre = lnP pre) := by show _ = _; unfold P41; rw [hpr]; rfl
    have HCB : Hid (∀ y ∈ can pre, -9223372036854775808 ≤ y ∧ y ≤ 9223372036854775807) := fun y hy => by have := HPB.out y (can_mem hy); omega
    clear hpr hp hm
    obtain ⟨v, hv⟩ : ∃ v, decide (can pre = pre) = v := ⟨_, rfl⟩
    have HVV := Lib.hid hv
    have HPV : Hid (P41 pre = v) := by show _ = _; rw [HV.out, ← hv]; rfl
    clear hv
    go_enter Try.func41, Try.ntmps41
    go_wp2_with fail
    (with_reducible refine (implIsPrime_all B _ d pre _ (HIN.out.ext (by with_reducible (repeat (first | exact Ext.refl _ | apply Ext.drewN | apply Ext.drew | apply Ext.alloc | (refine Ext.set ?_ (by first | (simp; done) | (simp; omega) | omega) _) | (refine Ext.trans ?_ (by assumption))))))).mono ?_)
    rw [HPR.out]
    rintro e w2 ⟨rfl, hx2⟩
    have HX2 : Hid (Ext w w2) := Ext.trans (by with_reducible (repeat (first | exact Ext.refl _ | apply Ext.drewN | apply Ext.drew | apply Ext.alloc | (refine Ext.set ?_ (by first | (simp; done) | (simp; omega) | omega) _) | (refine Ext.trans ?_ (by assumption))))) hx2
    clear hx2
    go_wp2_with fail
    (with_reducible refine (canonical_any B _ d pre _ (HIN.out.ext (HX2.out.trans (by with_reducible (repeat (first | exact Ext.refl _ | apply Ext.drewN | apply Ext.drew | apply Ext.alloc | (refine Ext.set ?_ (by first | (simp; done) | (simp; omega) | omega) _) | (refine Ext.trans ?_ (by assumption))))))) hpl1 HCAP.out).mono ?_)
    rintro e w3 ⟨A3, c3, rfl, hx3, hi3⟩
    have HI3 := Lib.hid hi3
    have HX3 : Hid (Ext w w3) := HX2.out.trans (Ext.trans (by with_reducible (repeat (first | exact Ext.refl _ | apply Ext.drewN | apply Ext.drew | apply Ext.alloc | (refine Ext.set ?_ (by first | (simp; done) | (simp; omega) | omega) _) | (refine Ext.trans ?_ (by assumption))))) hx3)
    clear hx3 hi3
    go_wp2_with fail
    (with_reducible refine (sameNumbers_is _ _ _ _ _ _ (can pre) pre _ (HI3.out.ext (by with_reducible (repeat (first | exact Ext.refl _ | apply Ext.drewN | apply Ext.drew | apply Ext.alloc | (refine Ext.set ?_ (by first | (simp; done) | (simp; omega) | omega) _) | (refine Ext.trans ?_ (by assumption)))))) (HIN.out.ext (HX3.out.trans (by with_reducible (repeat (first | exact Ext.refl _ | apply Ext.drewN | apply Ext.drew | apply Ext.alloc | (refine Ext.set ?_ (by first | (simp; done) | (simp; omega) | omega) _) | (refine Ext.trans ?_ (by assumption))))))) _ HVV.out).mono ?_)
    rintro e w4 ⟨rfl, q4, rfl⟩
    have HX4 : Hid (Ext w (w3.drewN q4)) := HX3.out.trans ((Ext.refl _).drewN q4)
    have hz4 := HX4.out.size
    cases v
    · go_wp2
      go_ret
      exact HNO.out _ HX4.out HPV.out
    · have HPX : Hid (Ext Wb ((w3.drewN q4).alloc (.cells #[.slice B pre.length d] 30))) := (HX.out.trans HX4.out).alloc _
      have a0 := (HQ0.out.keep (Below.block (HX.out.trans HX4.out) q hql)).c0
      go_wp2_with (at_builtin; refine appPL rfl _ _ rfl rfl HST.out HPX.out (by omega) rfl (heap_alloc_new _ _) rfl (HR.out.ext (HX4.out.alloc _)) rfl h1 (by simp at hz4 ⊢; omega) ?_; intro A5 c5 w5 S5 hg5; have hbq5 := (hg5.block q (by simp at hz4 ⊢; omega) HQN.out).trans (Below.block HPX.out q hql); have hbg5 := (hg5.block g (by simp at hz4 ⊢; omega) HGN.out).trans (Below.block HPX.out g hgl); have r0 := (HQ0.out.keep hbq5).c0; have rf := (HQ0.out.keep hbq5).fz)
      have HF : Hid (CloOut w0 w g q ub n h fn U At ct pre (F41 out pre) (.returned (.bool true)) (w5.setCell ⟨q, 0, none⟩ (.slice A5 (out.length + 1) c5))) := by
        have hgs := S5.gl g (by simp)
        have k := only_setCell (World.grownBy.refl w5 (some q)) (p := ⟨q, 0, none⟩) rfl (.slice A5 (out.length + 1) c5)
        have hb3 := k.block g hgs.2 (by simpa using hgq)
        show CloOut _ _ _ _ _ _ _ _ _ _ _ _ _ _ _
        rw [F41_yes HPV.out]
        exact ⟨rfl, ⟨A5, c5, S5.cell (by simp) 0 _, (HC.out.keep hbg5).keep hb3, ⟨by rw [List.length_append]; go_simp, by go_simp⟩, hgq⟩, (hb3.trans hbg5).trans (Below.block HX.out g hgl).symm⟩
      clear S5 hg5 hbq5 hbg5
      go_wp2
      go_ret
      exact HF.out
/-- The prime patterns. -/
def prl (a b c : Int) : List (List Int) := (lst a b c).filter prq
theorem srch_few (n h : Nat) : ∀ (d : Nat) (U : Nat → Bool) (pre : List Int) (l : Int), (srch n h d U pre l).length ≤ (h + 1) ^ d
  | 0, U, pre, l => by
    unfold srch
    split <;> simp
  | d + 1, U, pre, l => by
    rw [srch_succ]
    have key : ∀ k, (spart n h d U pre l k).length ≤ k * (h + 1) ^ d := by
      intro k
      induction k with
      | zero => simp [spart_zero]
      | succ k ih =>
        rw [spart_succ, List.length_append, Nat.succ_mul]
        have : (sarm n h d U pre l k).length ≤ (h + 1) ^ d := by
          unfold sarm
          split
          · exact srch_few n h d _ _ _
          · simp
        omega
    have := key (h + 1)
    rw [Nat.pow_succ, Nat.mul_comm]
    exact this
theorem lst_few {a : Int} {b c : Nat} (hb : b ≤ 6) (hc : c ≤ 7) : (lst a b c).length ≤ 262144 := by
  refine Nat.le_trans (srch_few _ _ _ _ _ _) ?_
  simp only [Int.toNat_natCast]
  exact Nat.le_trans (Nat.pow_le_pow_left (show c + 1 ≤ 8 by omega) b) (Nat.pow_le_pow_right (by omega) hb)
theorem hig_le {xs : List Int} {M : Int} (hM : 0 ≤ M) (h : ∀ i, i < xs.length → 0 ≤ xs[i]?.getD 0 ∧ xs[i]?.getD 0 ≤ M) : ∀ k, k ≤ xs.length → hig xs k ≤ M
  | 0, _ => by simp [hig, fold]; exact hM
  | k + 1, hk => by
    have h1 := hig_le hM h k (by omega)
    have h2 := h k (by omega)
    show cmf (hig xs k) (xs[k]?.getD 0) ≤ M
    unfold cmf
    split <;> omega
theorem lst_hig {a b c : Int} (hb : 1 ≤ b ∧ b ≤ 12) (hc : 0 ≤ c ∧ c ≤ 15) {p : List Int} (hp : p ∈ lst a b c) : hig p p.length ≤ c := by
  obtain ⟨h1, h2⟩ := lst_mem (by omega) (by omega) hp
  refine hig_le hc.1 (fun i hi => ?_) _ (Nat.le_refl _)
  rw [List.getElem?_eq_getElem hi]
  exact h2 _ (List.getElem_mem hi)
theorem prl_eq {a b c : Int} (hb : 1 ≤ b ∧ b ≤ 6) (hc : 0 ≤ c ∧ c ≤ 7) : (lst a b c).filter P41 = prl a b c := by
  refine List.filter_congr (fun p hp => ?_)
  have hv := lst_valid (by omega) (by omega) hp
  have hg := lst_hig (by omega) (by omega) hp
  unfold P41 prmF prq
  rw [hv, decide_eq_true (by omega)]
  simp [Bool.and_comm]
theorem prl_mem {a b c : Int} {p : List Int} (hp : p ∈ prl a b c) : p ∈ lst a b c ∧ prq p = true := List.mem_filter.1 hp
theorem prl_asc (a b c : Int) : (prl a b c).Pairwise (fun p q => cmpL p q = -1) := (lst_asc a b c).filter _
/-- Rows of rows are handed back, in new memory. -/
def RetL1 (w : World) (L : List (List Int)) (e : Ending) (w' : World) : Prop :=
  ∃ A k, e = .returned (.slice A L.length k) ∧ Ext w w' ∧ LRow w' w.heap.size w'.heap.size A L.length k L
theorem ent41 (args : Array Value) (w : World) : (callFunc 41 args).run Try.prog w = .ok (.enter 41 args) w := enters_of Try.func41 (by kernel_rfl) rfl args w
set_option maxHeartbeats 2000000 in
theorem primesOf_any (p n h : Nat) (hp : p ≤ h) (hn : 1 ≤ n ∧ n ≤ 6) (hh : 1 ≤ h ∧ h ≤ 5) (w : World) :
    Calls Try.prog 24 #[.int .i64 p, .int .i64 h, .int .i64 n] w (RetL1 w (prl p n h)) := by
  have hmf : ∀ (fn : Fn) (first cap : Array Value) (w : World), (Instr.makeFunc fn first cap).run Try.prog w = .ok (.func fn first cap) w := fun _ _ _ _ => rfl
  have hE : Ext w ((w.alloc (.cells #[] 30)).alloc (.cells #[.slice (some ⟨w.heap.size, 0, none⟩) 0 0] 25)) := ((Ext.refl _).alloc _).alloc _
  have hb0 : ((w.alloc (.cells #[] 30)).alloc (.cells #[.slice (some ⟨w.heap.size, 0, none⟩) 0 0] 25)).heap[w.heap.size]? = some (.cells #[] 30) := by
    rw [Below.heap_alloc _ _ _ (by simp)]
    exact heap_alloc_new _ _
  have HEA := Lib.hid (each_any 41 n h p F41 Ok41 okF41 (clo41 n hn.1) ent41 hn (by omega) (by omega) w ((w.alloc (.cells #[] 30)).alloc (.cells #[.slice (some ⟨w.heap.size, 0, none⟩) 0 0] 25)) (w.heap.size + 1) (some ⟨w.heap.size, 0, none⟩) 0 hE ⟨by go_simp, by go_simp⟩ ⟨by omega, by simp⟩ ⟨⟨by simp, .inr ⟨w.heap.size, 0, #[], rfl, Nat.le_refl _, hb0, Nat.le_refl _, by simp [maxLen], by simp, by simp⟩⟩, (fun a e => by cases e; simp; omega)⟩ (fun b e => by simp at e; omega) (by unfold Ok41; have := lst_few (a := p) (b := n) (c := h) hn.2 (by omega); simp; omega))
  have HPL : Hid ((lst p n h).filter P41 = prl p n h) := prl_eq (by omega) (by omega)
  have HFEW : Hid ((prl p n h).length ≤ 20) := prq_few p n h hn hh hp
  have HMEM : Hid (∀ i, i < (prl p n h).length → ((ll (prl p n h) i).length : Int) = n ∧ ∀ y ∈ ll (prl p n h) i, 0 ≤ y ∧ y ≤ h) := fun i hi => lst_mem (by omega) (by omega) (prl_mem (ll_mem hi)).1
  have HASC := Lib.hid (prl_asc p n h)
  clear hE hb0
  go_enter Try.func24, Try.ntmps24
  go_wp2_with fail
  (with_reducible refine HEA.out.mono ?_)
  rintro e w2 ⟨rfl, h2⟩
  rw [runF41, List.nil_append, HPL.out] at h2
  obtain ⟨L, hL⟩ : ∃ L, prl p n h = L := ⟨_, rfl⟩
  rw [hL] at h2
  dsimp only at h2
  have HLL := Lib.hid hL
  clear hL
  obtain ⟨At, ct, Ao, co, hst, _, hq, _⟩ := h2
  have HST := Lib.hid hst
  have HQ := Lib.hid hq
  have HSR : Hid (Srd w2 w.heap.size (w.heap.size + 1) Ao L.length co L n) := by
    obtain ⟨H, hF, o1, o2⟩ := hst.outs
    refine ⟨rfl, ⟨H, hF⟩, hq, (hst.gl (w.heap.size + 1) (by simp)).2, fun b e => ?_, fun H2 hF2 i hi b hb => ?_, fun i hi => ?_, fun i hi y hy => ?_, by omega⟩
    · exact fun e2 => (o2 b e).1 (by rw [e2]; simp)
    · have e3 : (H2 i).1 = (H i).1 := by
        obtain ⟨g2, rfl, _⟩ := hF.form (by omega)
        have c1 := (hF.cells hi).1
        have c2 := (hF2.cells hi).1
        rw [c1] at c2
        simp only [Option.some.injEq, Value.slice.injEq] at c2
        exact c2.1.symm
      rw [e3] at hb
      exact fun e2 => (o1 i hi b hb).1 (by rw [e2]; simp)
    · have := (HMEM.out i (by rw [HLL.out]; exact hi)).1
      rw [HLL.out] at this
      omega
    · have := (HMEM.out i (by rw [HLL.out]; exact hi)).2 y (by rw [HLL.out]; exact hy)
      omega
  obtain ⟨b0, b1⟩ := hq
  have hql := (hst.gl (w.heap.size + 1) (by simp)).2
  clear hst hmf
  have hmf2 : ∀ (fn : Fn) (first cap : Array Value) (w : World), (Instr.makeFunc fn first cap).run Try.prog w = .ok (.func fn first cap) w := fun _ _ _ _ => rfl
  go_wp2_with fail
  (with_reducible refine (sort_keep w2 w.heap.size (w.heap.size + 1) Ao L.length co L n HSR.out (by rw [← HLL.out]; exact HASC.out) (by rw [← HLL.out]; exact HFEW.out) (fun i j hij hj => cmpL_swap (asc_at (by rw [← HLL.out]; exact HASC.out) hij hj))).mono ?_)
  rintro e w3 ⟨rfl, hx3⟩
  have b3 := hx3.cell hql b0
  have HF : Hid (RetL1 w (prl p n h) (.returned (.slice Ao L.length co)) w3) := by
    obtain ⟨H, hF, _⟩ := (HST.out.after hx3).outs
    rw [HLL.out]
    exact ⟨Ao, co, rfl, HST.out.ext.trans hx3, rfl, H, hF⟩
  clear hx3
  go_wp2
  go_ret
  exact HF.out
end Go.Proofs.Ytbldhfmhipdniaa

namespace Go.Proofs.Ytbldhfmhipdniaa
set_option linter.unusedVariables false
set_option linter.unusedSimpArgs false
open Go.RowKit Go.Joins

theorem primesCode_zero (p h n : Nat) (hp : p ≤ h) (hn : 1 ≤ n ∧ n ≤ 6) (hh : 1 ≤ h ∧ h ≤ 5) (w : World) :
    Calls Try.prog 23 #[.int .i64 p, .int .i64 h, .int .i64 n] w fun e w' => e = .returned (.int .i64 0) ∧ w = w' := by
  have H1 : Hid (btw (h : Int) 1 7 = true) := btw_iff.2 (by omega)
  have H2 : Hid (btw (p : Int) 0 h = true) := btw_iff.2 (by omega)
  have H3 : Hid (btw (n : Int) 1 6 = true) := btw_iff.2 (by omega)
  go_enter Try.func23, Try.ntmps23
  go_wp2_with (first | (go_at_call 33; (with_reducible refine (between_is _ _ _ _ H1.out _).mono ?_); rintro e w' ⟨rfl, rfl⟩) | (go_at_call 33; (with_reducible refine (between_is _ _ _ _ H2.out _).mono ?_); rintro e w' ⟨rfl, rfl⟩) | (go_at_call 33; (with_reducible refine (between_is _ _ _ _ H3.out _).mono ?_); rintro e w' ⟨rfl, rfl⟩) | fail)
  go_ret
  exact ⟨rfl, rfl⟩
set_option maxHeartbeats 1000000 in
theorem PrimesOf_any (p n h : Nat) (hp : p ≤ h) (hn : 1 ≤ n ∧ n ≤ 6) (hh : 1 ≤ h ∧ h ≤ 5) (w : World) :
    Calls Try.prog 8 #[.int .i64 p, .int .i64 h, .int .i64 n] w (RetLL w (prl p n h) 0) := by
  have hfew : (prl p n h).length ≤ 20 := prq_few p n h hn hh hp
  obtain ⟨L, hL⟩ : ∃ L, prl p n h = L := ⟨_, rfl⟩
  have HP := Lib.hid (fun W => primesOf_any p n h hp hn hh W)
  rw [hL] at HP hfew ⊢
  have i30 : ¬ (30 : Int) < L.length := by omega
  clear hL
  go_enter Try.func8, Try.ntmps8
  go_wp2_with (first | (go_at_call 23; (with_reducible refine (primesCode_zero p h n hp hn hh _).mono ?_); rintro e w' ⟨rfl, rfl⟩) | fail)
  (with_reducible refine (HP.out _).mono ?_)
  rintro e w1 ⟨A, k, rfl, hx, hr⟩
  have HX : Hid (RetLL w L 0 (.returned (.tuple #[.slice A L.length k, .int .i64 0])) w1) := ⟨A, k, rfl, hx, hr⟩
  clear hx hr
  go_wp2
  go_ret2
  exact HX.out
set_option maxHeartbeats 1000000 in
theorem CountPrimes_any (p n h : Nat) (hp : p ≤ h) (hn : 1 ≤ n ∧ n ≤ 6) (hh : 1 ≤ h ∧ h ≤ 5) (w : World) :
    Calls Try.prog 9 #[.int .i64 p, .int .i64 h, .int .i64 n] w fun e w' => e = .returned (.tuple #[.int .i64 (prl p n h).length, .int .i64 0]) ∧ Ext w w' := by
  obtain ⟨L, hL⟩ : ∃ L, prl p n h = L := ⟨_, rfl⟩
  have HP := Lib.hid (fun W => PrimesOf_any p n h hp hn hh W)
  rw [hL] at HP ⊢
  clear hL
  go_enter Try.func9, Try.ntmps9
  go_wp2_with fail
  (with_reducible refine (HP.out _).mono ?_)
  rintro e w1 ⟨A, k, rfl, hx, hr⟩
  have HX := Lib.hid hx
  clear hx hr
  go_wp2
  go_ret2
  exact ⟨rfl, HX.out⟩
/-- The greatest period with prime patterns. -/
def Lgp (w : World) (p h : Nat) (e : Ending) (w' : World) : Prop :=
  ∃ x : Int, e = .returned (.tuple #[.int .i64 x, .int .i64 0]) ∧ Hid (1 ≤ x ∧ ∀ n : Nat, 1 ≤ n → n ≤ 6 → prl p n h ≠ [] → (n : Int) ≤ x) ∧ Ext w w'
set_option maxHeartbeats 2000000 in
theorem LongestPrime_any (p h : Nat) (hp : p ≤ h) (hh : 1 ≤ h ∧ h ≤ 5) (w : World) :
    Calls Try.prog 16 #[.int .i64 p, .int .i64 h] w (Lgp w p h) := by
  have HPC : Hid (∀ W, Calls Try.prog 23 #[.int .i64 p, .int .i64 h, .int .i64 1] W fun e w' => e = .returned (.int .i64 0) ∧ W = w') := fun W => primesCode_zero p h 1 hp (by omega) hh W
  go_enter Try.func16, Try.ntmps16
  go_wp2_with (first | (go_at_call 23; (with_reducible refine (HPC.out _).mono ?_); rintro e w' ⟨rfl, rfl⟩) | fail)
  go_loopw [7] (fun i wr => ∃ k : Nat, 1 ≤ k ∧ k ≤ 6 ∧ i = .int .i64 k ∧ Ext w wr ∧ Hid (∀ n : Nat, k < n → n ≤ 6 → prl p n h = [])) (fun i _ => (intOf i).toNat)
  case atStart => exact ⟨6, by omega, by omega, rfl, Ext.refl _, fun n h1 h2 => absurd h1 (by omega)⟩
  case round =>
    obtain ⟨k, hk1, hk, rfl, hxr, HN⟩ := hrel
    have HXR := Lib.hid hxr
    clear hxr
    by_cases hlt : 1 < k
    · have i1 : (1 : Int) < k := by omega
      obtain ⟨L, hL⟩ : ∃ L, prl p k h = L := ⟨_, rfl⟩
      have HP := Lib.hid (fun W => primesOf_any p k h hp (by omega) hh W)
      have HL := Lib.hid hL
      rw [hL] at HP
      clear hL
      go_wp2_with fail
      (with_reducible refine (HP.out _).mono ?_)
      rintro e w1 ⟨A, c, rfl, hx, hr⟩
      have HX : Hid (Ext wr w1) := Ext.trans (by with_reducible (repeat (first | exact Ext.refl _ | apply Ext.drewN | apply Ext.drew | apply Ext.alloc | (refine Ext.set ?_ (by first | (simp; done) | (simp; omega) | omega) _) | (refine Ext.trans ?_ (by assumption))))) hx
      clear hx hr
      by_cases hz : L = []
      · have HN2 : Hid (∀ n : Nat, k - 1 < n → n ≤ 6 → prl p n h = []) := fun n h1 h2 => by
          by_cases e : n = k
          · subst e; rw [HL.out, hz]
          · exact HN.out n (by omega) h2
        have hl0 : L.length = 0 := by rw [hz]; rfl
        have i2 : ¬ (0 : Int) < L.length := by omega
        have hkk : (k : Int) - 1 = ((k - 1 : Nat) : Int) := by omega
        clear hz hl0
        go_wp2
        go_roundw
        case rel => exact ⟨k - 1, by omega, by omega, by first | rfl | rw [hkk], HXR.out.trans HX.out, HN2⟩
        case measure => simp [intOf]; omega
      · have hl1 : 0 < L.length := List.length_pos_iff.2 hz
        have i2 : (0 : Int) < L.length := by omega
        have HF : Hid (Lgp w p h (.returned (.tuple #[.int .i64 k, .int .i64 0])) w1) := ⟨k, rfl, ⟨by omega, fun n h1 h2 h3 => by
          rcases Nat.lt_or_ge k n with h4 | h4
          · exact absurd (HN.out n h4 h2) h3
          · omega⟩, HXR.out.trans HX.out⟩
        clear hz
        go_wp2
        go_ret2
        exact HF.out
    · obtain rfl : k = 1 := by omega
      have HF : Hid (Lgp w p h (.returned (.tuple #[.int .i64 1, .int .i64 0])) wr) := ⟨1, rfl, ⟨by omega, fun n h1 h2 h3 => by
        rcases Nat.lt_or_ge 1 n with h4 | h4
        · exact absurd (HN.out n h4 h2) h3
        · omega⟩, HXR.out⟩
      go_wp2
      go_ret2
      exact HF.out
theorem specCanonicalPattern_yes (A : Option Addr) (n c : Nat) (xs : List Int) (w : World) (hI : Ints w A n xs) (hv : vpat xs = true) (hc : n ≤ c) :
    Calls Try.prog 10 #[.slice A n c] w fun e w' => ∃ A1 c1, e = .returned (.tuple #[.slice A1 (can xs).length c1, .int .i64 0]) ∧ Ext w w' ∧ Ints w' A1 (can xs).length (can xs) := by
  have HI := Lib.hid hI
  have HV := Lib.hid hv
  have hn := (thr_iff.1 (vpat_thr hv)).2
  rw [hI.len] at hn
  clear hv
  go_enter Try.func10, Try.ntmps10
  go_wp2_with fail
  (with_reducible refine (l02Ok_is A n c xs true HV.out _ (HI.out.ext (by with_reducible (repeat (first | exact Ext.refl _ | apply Ext.drewN | apply Ext.drew | apply Ext.alloc | (refine Ext.set ?_ (by first | (simp; done) | (simp; omega) | omega) _) | (refine Ext.trans ?_ (by assumption))))))).mono ?_)
  rintro e w1 ⟨rfl, q1, rfl⟩
  have HX1 : Hid (Ext w (w.drewN q1)) := (Ext.refl _).drewN q1
  go_wp2_with fail
  (with_reducible refine (l03Canon_any A n c xs _ (HI.out.ext (HX1.out.trans (by with_reducible (repeat (first | exact Ext.refl _ | apply Ext.drewN | apply Ext.drew | apply Ext.alloc | (refine Ext.set ?_ (by first | (simp; done) | (simp; omega) | omega) _) | (refine Ext.trans ?_ (by assumption))))))) (by omega) hc).mono ?_)
  rintro e w2 ⟨A2, c2, rfl, hx2, hi2⟩
  have HX2 : Hid (Ext w w2) := HX1.out.trans (Ext.trans (by with_reducible (repeat (first | exact Ext.refl _ | apply Ext.drewN | apply Ext.drew | apply Ext.alloc | (refine Ext.set ?_ (by first | (simp; done) | (simp; omega) | omega) _) | (refine Ext.trans ?_ (by assumption))))) hx2)
  have HI2 := Lib.hid hi2
  clear hx2 hi2
  go_wp2
  go_ret2
  exact ⟨A2, c2, rfl, HX2.out, HI2.out⟩
theorem specHighestOf_yes (A : Option Addr) (n c : Nat) (xs : List Int) (w : World) (hI : Ints w A n xs) (hv : vpat xs = true) :
    Calls Try.prog 11 #[.slice A n c] w fun e w' => e = .returned (.tuple #[.int .i64 (hig xs n), .int .i64 0]) ∧ Ext w w' := by
  have HI := Lib.hid hI
  have HV := Lib.hid hv
  clear hv
  go_enter Try.func11, Try.ntmps11
  go_wp2_with fail
  (with_reducible refine (l02Ok_is A n c xs true HV.out _ (HI.out.ext (by with_reducible (repeat (first | exact Ext.refl _ | apply Ext.drewN | apply Ext.drew | apply Ext.alloc | (refine Ext.set ?_ (by first | (simp; done) | (simp; omega) | omega) _) | (refine Ext.trans ?_ (by assumption))))))).mono ?_)
  rintro e w1 ⟨rfl, q1, rfl⟩
  have HX1 : Hid (Ext w (w.drewN q1)) := (Ext.refl _).drewN q1
  go_wp2_with (first | (go_at_call 27; (with_reducible refine (l02High_any _ _ _ xs _ (HI.out.ext HX1.out) HV.out).mono ?_); rintro e w' ⟨rfl, rfl⟩) | fail)
  go_ret2
  exact ⟨rfl, HX1.out⟩
theorem specComparePatterns_any (A B : Option Addr) (n c d : Nat) (xs ys : List Int) (w : World) (hI : Ints w A n xs) (hJ : Ints w B n ys) :
    Calls Try.prog 14 #[.slice A n c, .slice B n d] w fun e w' => e = .returned (.int .i64 (cmpL xs ys)) ∧ Qt w w' := by
  go_enter Try.func14, Try.ntmps14
  go_wp2_with fail
  (with_reducible refine (l02Compare_any A B n c d xs ys _ hI hJ).mono ?_)
  rintro e w1 ⟨rfl, q, rfl⟩
  go_wp2
  go_ret
  exact ⟨rfl, (by first | exact ⟨_, rfl⟩ | exact ⟨_, World.drewN_drewN _ _ _⟩)⟩
set_option maxHeartbeats 400000 in
theorem a2Same_any (A B : Option Addr) (n m c d : Nat) (xs ys : List Int) (w : World) (hI : Ints w A n xs) (hJ : Ints w B m ys) :
    Calls Try.prog 12 #[.slice A n c, .slice B m d] w fun e w' => e = .returned (.bool (decide (xs = ys))) ∧ Qt w w' := by
  have hs := hI.small
  have hs2 := hJ.small
  by_cases hnm : n = m
  · subst hnm
    have HE := Lib.hid (fun (h : ∀ i, i < n → xs[i]?.getD 0 = ys[i]?.getD 0) => ints_eq hI hJ.len h)
    go_enter Try.func12, Try.ntmps12
    go_wp2
    go_loopw [5] (fun i wr => ∃ k : Nat, k ≤ n ∧ i = .int .i64 k ∧ Qt w wr ∧ ∀ j, j < k → xs[j]?.getD 0 = ys[j]?.getD 0) (fun i _ => n - (intOf i).toNat)
    case atStart => exact ⟨0, Nat.zero_le _, rfl, Qt.refl _, fun j h => absurd h (by omega)⟩
    case round =>
      obtain ⟨k, hk, rfl, ⟨q, rfl⟩, hall⟩ := hrel
      have HA := Lib.hid hall
      clear hall
      by_cases hlt : k < n
      · obtain ⟨b, off, hA, hb, hcell⟩ := hI.at_ (by omega)
        obtain ⟨b2, off2, hB, hb2, hcell2⟩ := hJ.at_ (by omega)
        subst hA hB
        have c1 := hcell k hlt
        have c2 := hcell2 k hlt
        have i1 : (k : Int) < n := by omega
        clear hcell hcell2
        by_cases he : xs[k]?.getD 0 = ys[k]?.getD 0
        · have HA2 : Hid (∀ j, j < k + 1 → xs[j]?.getD 0 = ys[j]?.getD 0) := fun j hj => by
            by_cases e : j = k
            · rw [e]; exact he
            · exact HA.out j (by omega)
          rw [he] at c1
          clear he
          go_wp2
          go_quiet (fail)
          go_wp2
          go_roundw
          case rel => exact ⟨k + 1, by omega, by go_num, (by first | exact ⟨_, rfl⟩ | exact ⟨_, World.drewN_drewN _ _ _⟩), HA2.out⟩
          case measure => simp [intOf]; omega
        · have HR : Hid (decide (xs = ys) = false) := decide_eq_false (fun h => he (by rw [h]))
          have hne : (xs[k]?.getD 0 != ys[k]?.getD 0) = true := by simpa using he
          clear he
          generalize xs[k]?.getD 0 = u at *
          generalize ys[k]?.getD 0 = v at *
          go_wp2
          go_quiet (fail)
          go_wp2
          go_ret
          exact ⟨ret_bool HR.out.symm, (by first | exact ⟨_, rfl⟩ | exact ⟨_, World.drewN_drewN _ _ _⟩)⟩
      · have HR : Hid (decide (xs = ys) = true) := decide_eq_true (HE.out (fun i hi => HA.out i (by omega)))
        obtain rfl : k = n := by omega
        go_wp2
        go_ret
        exact ⟨ret_bool HR.out.symm, (by first | exact ⟨_, rfl⟩ | exact ⟨_, World.drewN_drewN _ _ _⟩)⟩
  · have HR : Hid (decide (xs = ys) = false) := decide_eq_false (fun h => hnm (by rw [← hI.len, ← hJ.len, h]))
    have h1 : ((n : Int) != m) = true := by simp; omega
    go_enter Try.func12, Try.ntmps12
    go_wp2
    go_ret
    exact ⟨ret_bool HR.out.symm, Qt.refl _⟩
theorem a2Same_is (A B : Option Addr) (n m c d : Nat) (xs ys : List Int) (w : World) (hI : Ints w A n xs) (hJ : Ints w B m ys) (v : Bool) (hv : decide (xs = ys) = v) :
    Calls Try.prog 12 #[.slice A n c, .slice B m d] w fun e w' => e = .returned (.bool v) ∧ Qt w w' := by
  subst hv
  exact a2Same_any A B n m c d xs ys w hI hJ
end Go.Proofs.Ytbldhfmhipdniaa
