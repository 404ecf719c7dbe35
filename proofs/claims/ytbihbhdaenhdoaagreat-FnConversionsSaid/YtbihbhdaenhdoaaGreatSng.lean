/- The throws of a multiplex pattern with one throw at each beat: the plain law, and contracts of SingleOf, both sides. No condition but the stated bounds. -/
import Derived.Test.YtbihbhdaenhdoaaGreatMlv
import Derived.Test.YtbihbhdaenhdoaaGreatCla
namespace Go.Proofs.YtbihbhdaenhdoaaGreat
set_option linter.unusedVariables false
set_option linter.unusedSimpArgs false
open Go.ChangeShapes Go.WideShapes Go.ChangeAt Go.RowKit Go.Joins Go.Deep

/-- The first throws of the first k beats. -/
def sgl (L : List (List Int)) (k : Nat) : List Int := (List.range k).map (fun i => (ll L i)[0]?.getD 0)
theorem sgl_len (L : List (List Int)) (k : Nat) : (sgl L k).length = k := by simp [sgl]
theorem sgl_succ (L : List (List Int)) (k : Nat) : sgl L (k + 1) = sgl L k ++ [(ll L k)[0]?.getD 0] := by simp [sgl, List.range_succ]
theorem sgl_get {L : List (List Int)} {k i : Nat} (h : i < k) : (sgl L k)[i]?.getD 0 = (ll L i)[0]?.getD 0 := by simp [sgl, h]
/-- No beat among the first k has two throws. -/
def One (L : List (List Int)) (k : Nat) : Prop := ∀ i, i < k → (ll L i).length ≤ 1
instance (L : List (List Int)) (k : Nat) : Decidable (One L k) := by unfold One; infer_instance
theorem One.succ {L : List (List Int)} {k : Nat} (h : One L k) (hk : (ll L k).length ≤ 1) : One L (k + 1) := fun i hi => by
  by_cases e : i = k
  · rw [e]; exact hk
  · exact h i (by omega)
theorem ldL_one {L : List (List Int)} {k : Nat} (h1 : (ll L k).length = 1) : ldL L (k + 1) = ldL L k ++ (if (0 : Int) < (ll L k)[0]?.getD 0 then [(k + ((ll L k)[0]?.getD 0).toNat) % L.length] else []) := by
  show ldL L k ++ ldb L.length k (ll L k) (ll L k).length = _
  rw [h1]
  show _ ++ ([] ++ _) = _
  rw [List.nil_append]
theorem cnt_one {L : List (List Int)} {n p : Nat} (ho : ∀ i, i < n → (ll L i).length = 1) : ∀ k, k ≤ n → ∀ i, i < k → (0 : Int) < (ll L i)[0]?.getD 0 → (i + ((ll L i)[0]?.getD 0).toNat) % L.length = p → 1 ≤ (ldL L k).count p
  | 0, _, i, hi, _, _ => absurd hi (by omega)
  | k + 1, hk, i, hi, h0, hp => by
    rw [ldL_one (ho k (by omega)), List.count_append]
    by_cases e : i = k
    · subst e
      rw [if_pos h0, hp]
      simp
    · have := cnt_one ho k (by omega) i (by omega) h0 hp
      omega
theorem cnt_two {L : List (List Int)} {n p : Nat} (ho : ∀ i, i < n → (ll L i).length = 1) : ∀ k, k ≤ n → ∀ i j, i < j → j < k → (0 : Int) < (ll L i)[0]?.getD 0 → (0 : Int) < (ll L j)[0]?.getD 0 → (i + ((ll L i)[0]?.getD 0).toNat) % L.length = p → (j + ((ll L j)[0]?.getD 0).toNat) % L.length = p → 2 ≤ (ldL L k).count p
  | 0, _, i, j, _, hj, _, _, _, _ => absurd hj (by omega)
  | k + 1, hk, i, j, hij, hj, h0, h1, hp, hq => by
    rw [ldL_one (ho k (by omega)), List.count_append]
    by_cases e : j = k
    · subst e
      have := cnt_one ho j (by omega) i hij h0 hp
      rw [if_pos h1, hq, show List.count p [p] = 1 by simp]
      omega
    · have := cnt_two ho k (by omega) i j hij (by omega) h0 h1 hp hq
      omega
theorem vmul_sgl {L : List (List Int)} {n : Nat} (hl : L.length = n) (h : vmul L = true) (h1 : One L n) : vpat (sgl L n) = true := by
  unfold vmul at h
  rw [Bool.and_eq_true, decide_eq_true_iff] at h
  obtain ⟨hs, hc⟩ := h
  obtain ⟨n1, n12, hrow⟩ := stks_iff hs
  rw [hl] at n1 n12 hc hrow
  have ho : ∀ i, i < n → (ll L i).length = 1 := fun i hi => by
    have := (hrow i hi).1
    have := h1 i hi
    omega
  have hb : ∀ i, i < n → (0 : Int) ≤ (ll L i)[0]?.getD 0 ∧ (ll L i)[0]?.getD 0 ≤ 15 := fun i hi => (hrow i hi).2.2.1 0 (by rw [ho i hi]; omega)
  unfold vpat
  rw [Bool.and_eq_true]
  constructor
  · rw [thr_iff, sgl_len]
    exact ⟨fun i hi => by rw [sgl_get hi]; exact hb i hi, by omega, by omega⟩
  · refine ncl_yes ?_
    rw [sgl_len]
    intro j hj i hi e
    have key : ∀ i, i < n → lnd (sgl L n) i = (((i + ((ll L i)[0]?.getD 0).toNat) % n : Nat) : Int) := fun i hi => by
      have := hb i hi
      unfold lnd
      rw [sgl_len, sgl_get hi, Int.natCast_emod]
      generalize (ll L i)[0]?.getD 0 = x at this ⊢
      rw [show ((i + x.toNat : Nat) : Int) = (i : Int) + x by omega]
    rw [key i (by omega), key j hj] at e
    have e' : (i + ((ll L i)[0]?.getD 0).toNat) % n = (j + ((ll L j)[0]?.getD 0).toNat) % n := by omega
    have bi := hb i (by omega)
    have bj := hb j hj
    have ci := hc i (by omega)
    have cj := hc j hj
    have t1 : ∀ xs : List Int, xs.length = 1 → thn xs ≤ 1 := fun xs h => by unfold thn; split <;> omega
    by_cases zi : (ll L i)[0]?.getD 0 = 0
    · by_cases zj : (ll L j)[0]?.getD 0 = 0
      · rw [zi, zj] at e'
        simp [Nat.mod_eq_of_lt (show i < n by omega), Nat.mod_eq_of_lt hj] at e'
        omega
      · have hp : (j + ((ll L j)[0]?.getD 0).toNat) % L.length = i := by rw [hl, ← e', zi]; simp [Nat.mod_eq_of_lt (show i < n by omega)]
        have := cnt_one ho n (Nat.le_refl _) j hj (by omega) hp
        have hz : thn (ll L i) = 0 := by unfold thn; rw [if_pos zi]
        omega
    · by_cases zj : (ll L j)[0]?.getD 0 = 0
      · have hp : (i + ((ll L i)[0]?.getD 0).toNat) % L.length = j := by rw [hl, e', zj]; simp [Nat.mod_eq_of_lt hj]
        have := cnt_one ho n (Nat.le_refl _) i (by omega) (by omega) hp
        have hz : thn (ll L j) = 0 := by unfold thn; rw [if_pos zj]
        omega
      · obtain ⟨p, hp⟩ : ∃ p, (i + ((ll L i)[0]?.getD 0).toNat) % n = p := ⟨_, rfl⟩
        have hpn : p < n := by rw [← hp]; exact Nat.mod_lt _ (by omega)
        have := cnt_two (p := p) ho n (Nat.le_refl _) i j hi hj (by omega) (by omega) (by rw [hl]; exact hp) (by rw [hl, ← e']; exact hp)
        have cp := hc p hpn
        have := t1 _ (ho p hpn)
        omega
theorem Own.base {w w1 w' : World} {v : Value} {ys : List Int} (h : Own w1 w' v ys) (k : Ext w w1) : Own w w' v ys := ⟨ownsRow_le h.own k.size, k.trans h.ext⟩
/-- What SingleOf hands back for a valid pattern. -/
def RetSg (w : World) (L : List (List Int)) (n : Nat) (e : Ending) (w' : World) : Prop :=
  (One L n ∧ ∃ A c, e = .returned (.tuple #[.slice A n c, .int .i64 0]) ∧ Own w w' (.slice A n c) (sgl L n)) ∨ (¬ One L n ∧ e = .returned (.tuple #[.slice none 0 0, .int .i64 10]) ∧ Ext w w')
theorem ValidMulti_is (A : Option Addr) (n c : Nat) (L : List (List Int)) (v : Bool) (hv : vmul L = v) (w : World) (hI : Lists w A n L) :
    Calls Tryz.prog 53 #[.agg #[.slice A n c]] w fun e w' => e = .returned (.bool v) ∧ Ext w w' := by
  subst hv
  exact ValidMulti_any A n c L w hI
set_option maxHeartbeats 2000000 in
theorem implSingleOf_any (A : Option Addr) (n c : Nat) (L : List (List Int)) (w : World) (hI : Lists w A n L) (hV : vmul L = true) :
    Calls Tryz.prog 59 #[.agg #[.slice A n c]] w (RetSg w L n) := by
  have hl := hI.len
  have hs : stks L = true := by unfold vmul at hV; rw [Bool.and_eq_true] at hV; exact hV.1
  obtain ⟨n1, n12, hrow⟩ := stks_iff hs
  rw [hl] at n1 n12 hrow
  have HROW : Hid (∀ i, i < n → 1 ≤ (ll L i).length) := fun i hi => (hrow i hi).1
  clear hrow hs
  have HB : Hid (w.heap.size < (w.alloc (.cells #[.slice A n c] 27)).heap.size) := by show _ < _; simp
  obtain ⟨i0, hi, hz0, hz1, hz2⟩ := info_parts infoInt
  go_enter Tryz.func59, Tryz.ntmps59
  go_wp2_with fail
  (with_reducible refine (ValidMulti_is A n c L _ hV _ (hI.ext (by with_reducible (repeat (first | exact Ext.refl _ | apply Ext.drewN | apply Ext.drew | apply Ext.alloc | (refine Ext.set ?_ (by first | (simp; done) | (simp; omega) | omega) _) | (refine Ext.trans ?_ (by assumption))))))).mono ?_)
  rintro e w1 ⟨rfl, hx⟩
  have hE : Ext w w1 := Ext.trans (by with_reducible (repeat (first | exact Ext.refl _ | apply Ext.drewN | apply Ext.drew | apply Ext.alloc | (refine Ext.set ?_ (by first | (simp; done) | (simp; omega) | omega) _) | (refine Ext.trans ?_ (by assumption))))) hx
  have z1 : w.heap.size < w1.heap.size := by have := hx.size; have := HB.out; omega
  have b1 : w1.cell? ⟨w.heap.size, 0, none⟩ = some (.slice A n c) := hx.cell HB.out (by go_simp)
  clear hx HB
  go_wp2
  go_loopw [4, 14] (fun v i wr => ∃ k : Nat, k ≤ n ∧ i = .int .i64 k ∧ One L k ∧ Own w wr v (sgl L k)) (fun _ i _ => n - (intOf i).toNat)
  case atStart => exact ⟨0, Nat.zero_le _, rfl, fun i h => absurd h (by omega), own_empty hE⟩
  case round =>
    obtain ⟨k, hk, rfl, hno, hown⟩ := hrel
    have HNO := Lib.hid hno
    clear hno
    by_cases hlt : k < n
    · obtain ⟨b, off, rfl, hb, hcell⟩ := (hI.ext hown.ext).at_ (by omega)
      obtain ⟨B, m, q, c0, hK⟩ := hcell k hlt
      have hki : (k : Int) < n := by omega
      have hlen : (sgl L k).length ≤ 1000000 := by rw [sgl_len]; omega
      have HS := Lib.hid (sgl_succ L k)
      have hm1 := HROW.out k hlt
      rw [hK.len] at hm1
      have hsm := hK.small
      have HY : Hid (m ≤ 1 → One L (k + 1)) := fun h => HNO.out.succ (by rw [hK.len]; exact h)
      have HN : Hid (¬ m ≤ 1 → ¬ One L n) := fun h h2 => by have := h2 k hlt; rw [hK.len] at this; exact h this
      obtain ⟨b', off', rfl, hb', hcell'⟩ := hK.at_ (by omega)
      have e0 := hcell' 0 (by omega)
      rw [Nat.add_zero] at e0
      clear hcell hcell'
      generalize (ll L k)[0]?.getD 0 = x at e0 HS
      by_cases hm : m ≤ 1
      · have HG := Lib.hid (HY.out hm)
        have hmi : ¬ (1 : Int) < m := by omega
        have hm0 : (0 : Int) < m := by omega
        have hmn : 0 < m := by omega
        go_wp2_with (at_builtin; refine app1 rfl _ _ rfl _ _ _ rfl hown rfl hlen ?_; intro v' w3 hown')
        go_roundw
        case rel => exact ⟨k + 1, by omega, by go_num, HG.out, by rw [HS.out]; exact hown'⟩
        case measure => simp [intOf]; omega
      · have hmi : (1 : Int) < m := by omega
        have HG : Hid (RetSg w L n (.returned (.tuple #[.slice none 0 0, .int .i64 10])) wr) := .inr ⟨HN.out hm, rfl, hown.ext⟩
        go_wp2
        go_ret2
        exact HG.out
    · obtain rfl : k = n := by omega
      obtain ⟨A1, c1, rfl⟩ := hown.forms
      rw [sgl_len] at hown ⊢
      have HG : Hid (RetSg w L k (.returned (.tuple #[.slice A1 k c1, .int .i64 0])) wr) := .inl ⟨HNO.out, A1, c1, rfl, hown⟩
      go_wp2
      go_ret2
      exact HG.out
theorem l04Ok_is (g o : Nat) (A : Option Addr) (n c : Nat) (L : List (List Int)) (v : Bool) (hv : vmul L = v) (w : World) (hB : MBox w g o A n c) (hI : Lists w A n L) :
    Calls Tryz.prog 67 #[.pointer (some ⟨g, o, none⟩)] w fun e w' => e = .returned (.bool v) ∧ Ext w w' := by
  subst hv
  exact l04Ok_any g o A n c L w hB hI
set_option maxHeartbeats 2000000 in
theorem specSingleOf_any (A : Option Addr) (n c : Nat) (L : List (List Int)) (w : World) (hI : Lists w A n L) (hV : vmul L = true) :
    Calls Tryz.prog 73 #[.agg #[.slice A n c]] w (RetSg w L n) := by
  have hl := hI.len
  have hs : stks L = true := by unfold vmul at hV; rw [Bool.and_eq_true] at hV; exact hV.1
  obtain ⟨n1, n12, hrow⟩ := stks_iff hs
  rw [hl] at n1 n12 hrow
  have HROW : Hid (∀ i, i < n → 1 ≤ (ll L i).length) := fun i hi => (hrow i hi).1
  clear hrow hs
  have HB : Hid (w.heap.size < (w.alloc (.cells #[.slice A n c] 27)).heap.size) := by show _ < _; simp
  have HM : Hid (MBox (w.alloc (.cells #[.slice A n c] 27)) w.heap.size 0 A n c) := ⟨HB.out, by go_simp⟩
  obtain ⟨i0, hi, hz0, hz1, hz2⟩ := info_parts infoInt
  go_enter Tryz.func73, Tryz.ntmps73
  go_wp2_with fail
  (with_reducible refine (l04Ok_is w.heap.size 0 A n c L _ hV _ HM.out (hI.ext (by with_reducible (repeat (first | exact Ext.refl _ | apply Ext.drewN | apply Ext.drew | apply Ext.alloc | (refine Ext.set ?_ (by first | (simp; done) | (simp; omega) | omega) _) | (refine Ext.trans ?_ (by assumption))))))).mono ?_)
  rintro e w1 ⟨rfl, hx⟩
  have hE : Ext w w1 := Ext.trans (by with_reducible (repeat (first | exact Ext.refl _ | apply Ext.drewN | apply Ext.drew | apply Ext.alloc | (refine Ext.set ?_ (by first | (simp; done) | (simp; omega) | omega) _) | (refine Ext.trans ?_ (by assumption))))) hx
  have z1 : w.heap.size < w1.heap.size := by have := hx.size; have := HB.out; omega
  have b1 : w1.cell? ⟨w.heap.size, 0, none⟩ = some (.slice A n c) := hx.cell HB.out (by go_simp)
  clear hx HB HM
  go_wp2
  go_loopw [4, 5] (fun v i wr => ∃ k : Nat, k ≤ n ∧ i = .int .i64 k ∧ One L k ∧ Own w1 wr v (sgl L k)) (fun _ i _ => n - (intOf i).toNat)
  case atStart => exact ⟨0, Nat.zero_le _, rfl, fun i h => absurd h (by omega), own_empty (Ext.refl _)⟩
  case round =>
    obtain ⟨k, hk, rfl, hno, hown⟩ := hrel
    have HNO := Lib.hid hno
    clear hno
    have hE3 := hE.trans hown.ext
    have z3 := hown.ext.size
    have z4 : w.heap.size < wr.heap.size := by omega
    have b3 := hown.ext.cell z1 b1
    by_cases hlt : k < n
    · obtain ⟨b, off, rfl, hb, hcell⟩ := (hI.ext hE3).at_ (by omega)
      obtain ⟨B, m, q, c0, hK⟩ := hcell k hlt
      have hki : (k : Int) < n := by omega
      have hlen : (sgl L k).length ≤ 1000000 := by rw [sgl_len]; omega
      have HS := Lib.hid (sgl_succ L k)
      have hm1 := HROW.out k hlt
      rw [hK.len] at hm1
      have hsm := hK.small
      have HY : Hid (m ≤ 1 → One L (k + 1)) := fun h => HNO.out.succ (by rw [hK.len]; exact h)
      have HN : Hid (¬ m ≤ 1 → ¬ One L n) := fun h h2 => by have := h2 k hlt; rw [hK.len] at this; exact h this
      obtain ⟨b', off', rfl, hb', hcell'⟩ := hK.at_ (by omega)
      have e0 := hcell' 0 (by omega)
      rw [Nat.add_zero] at e0
      clear hcell hcell'
      generalize (ll L k)[0]?.getD 0 = x at e0 HS
      by_cases hm : m ≤ 1
      · have HG := Lib.hid (HY.out hm)
        have hmi : ¬ (1 : Int) < m := by omega
        have hm0 : (0 : Int) < m := by omega
        have hmn : 0 < m := by omega
        go_wp2_with (at_builtin; refine app1 rfl _ _ rfl _ _ _ rfl hown rfl hlen ?_; intro v' w3 hown')
        go_roundw
        case rel => exact ⟨k + 1, by omega, by go_num, HG.out, by rw [HS.out]; exact hown'⟩
        case measure => simp [intOf]; omega
      · have hmi : (1 : Int) < m := by omega
        have HG : Hid (RetSg w L n (.returned (.tuple #[.slice none 0 0, .int .i64 10])) wr) := .inr ⟨HN.out hm, rfl, hE3⟩
        go_wp2
        go_ret2
        exact HG.out
    · obtain rfl : k = n := by omega
      obtain ⟨A1, c1, rfl⟩ := hown.forms
      rw [sgl_len] at hown ⊢
      have HG : Hid (RetSg w L k (.returned (.tuple #[.slice A1 k c1, .int .i64 0])) wr) := .inl ⟨HNO.out, A1, c1, rfl, hown.base hE⟩
      go_wp2
      go_ret2
      exact HG.out
end Go.Proofs.YtbihbhdaenhdoaaGreat
