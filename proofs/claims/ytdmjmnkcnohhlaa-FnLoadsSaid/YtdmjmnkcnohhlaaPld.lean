/- Loads and rests: plain laws (renamed hands carry the same loads; rests add up to the common period). No condition but the stated bounds. -/
import Derived.Test.YtdmjmnkcnohhlaaRst
import Derived.Test.YtdmjmnkcnohhlaaFhd
namespace Go.Proofs.Ytdmjmnkcnohhlaa
set_option linter.unusedVariables false
set_option linter.unusedSimpArgs false
open Go.RowKit

theorem perm_sub : ∀ (L M : List Int), L.Nodup → (∀ x ∈ L, x ∈ M) → M.length ≤ L.length → L.Perm M
  | [], M, _, _, h => by
    have : M = [] := List.eq_nil_of_length_eq_zero (by simpa using h)
    subst this
    exact List.Perm.nil
  | a :: L, M, hn, hs, hl => by
    have ha : a ∈ M := hs a (by simp)
    have hp := List.perm_cons_erase ha
    rw [List.nodup_cons] at hn
    have ih := perm_sub L (M.erase a) hn.2 (fun x hx => by
      have : x ≠ a := by rintro rfl; exact hn.1 hx
      exact (List.mem_erase_of_ne this).2 (hs x (by simp [hx]))) (by
      have := List.length_erase_of_mem ha
      simp at hl
      omega)
    exact (List.Perm.cons a ih).trans hp.symm
def upto (H : Nat) : List Int := (List.range H).map (fun i : Nat => (i : Int))
theorem upto_nodup (H : Nat) : (upto H).Nodup := by
  unfold upto List.Nodup
  rw [List.pairwise_map]
  exact List.Pairwise.imp (fun h e => h (by omega)) (List.nodup_range (n := H))
theorem upto_mem {H : Nat} {x : Int} : x ∈ upto H ↔ 0 ≤ x ∧ x < H := by
  unfold upto
  simp only [List.mem_map, List.mem_range]
  constructor
  · rintro ⟨i, hi, rfl⟩; omega
  · intro h; exact ⟨x.toNat, by omega, by omega⟩
theorem upto_len (H : Nat) : (upto H).length = H := by simp [upto]
theorem getD_mem {xs : List Int} {i : Nat} (h : i < xs.length) : xs[i]?.getD 0 ∈ xs := by
  rw [List.getElem?_eq_getElem h]
  exact List.getElem_mem h
theorem mem_getD {xs : List Int} {x : Int} (h : x ∈ xs) : ∃ i, i < xs.length ∧ xs[i]?.getD 0 = x := by
  obtain ⟨i, hi, e⟩ := List.getElem_of_mem h
  exact ⟨i, hi, by rw [List.getElem?_eq_getElem hi]; exact e⟩
/-- The list names each of the first H hands once. -/
def prm (ns : List Int) (H : Nat) : Bool := decide (ns.length = H ∧ ∀ h : Nat, h < H → sn ns ns.length h = true)
theorem prm_iff {ns : List Int} {H : Nat} : prm ns H = true ↔ ns.length = H ∧ (∀ i, i < H → 0 ≤ ns[i]?.getD 0 ∧ ns[i]?.getD 0 < H) ∧ (∀ i j, i < j → j < H → ns[i]?.getD 0 ≠ ns[j]?.getD 0) := by
  unfold prm
  rw [decide_eq_true_iff]
  constructor
  · rintro ⟨hl, hs⟩
    have hp := perm_sub (upto H) ns (upto_nodup H) (fun x hx => by
      obtain ⟨h1, h2⟩ := upto_mem.1 hx
      have := hs x.toNat (by omega)
      unfold sn at this
      obtain ⟨i, hi, e⟩ := of_decide_eq_true this
      have hm := getD_mem hi
      rw [e, Int.toNat_of_nonneg h1] at hm
      exact hm) (by rw [upto_len]; omega)
    refine ⟨hl, fun i hi => upto_mem.1 (hp.mem_iff.2 (getD_mem (by omega))), fun i j hij hj e => ?_⟩
    have hn := (hp.nodup_iff).1 (upto_nodup H)
    unfold List.Nodup at hn
    rw [List.pairwise_iff_getElem] at hn
    refine hn i j (by omega) (by omega) hij ?_
    rw [List.getElem?_eq_getElem (by omega), List.getElem?_eq_getElem (by omega)] at e
    exact e
  · rintro ⟨hl, hr, hi⟩
    have hn : ns.Nodup := by
      unfold List.Nodup
      rw [List.pairwise_iff_getElem]
      intro i j h1 h2 hij e
      refine hi i j hij (by omega) ?_
      rw [List.getElem?_eq_getElem h1, List.getElem?_eq_getElem h2]
      exact e
    have hp := perm_sub ns (upto H) hn (fun x hx => by
      obtain ⟨i, h1, rfl⟩ := mem_getD hx
      exact upto_mem.2 (hr i (by omega))) (by rw [upto_len]; omega)
    refine ⟨hl, fun h hh => ?_⟩
    obtain ⟨i, h1, e⟩ := mem_getD (hp.mem_iff.2 (upto_mem.2 (show 0 ≤ (h : Int) ∧ (h : Int) < H by omega)))
    unfold sn
    exact decide_eq_true ⟨i, h1, e⟩
/-- The order with other names. -/
def rnm (os ns : List Int) : List Int := os.map (fun o => ns[o.toNat]?.getD 0)
theorem rnm_get {os ns : List Int} {i : Nat} (h : i < os.length) : (rnm os ns)[i]?.getD 0 = ns[(os[i]?.getD 0).toNat]?.getD 0 := by
  unfold rnm
  rw [List.getElem?_map, List.getElem?_eq_getElem h]
  rfl
theorem rnm_len (os ns : List Int) : (rnm os ns).length = os.length := by simp [rnm]
theorem hig_le {xs : List Int} {k : Nat} {M : Int} (hM : 0 ≤ M) (h : ∀ i, i < k → xs[i]?.getD 0 ≤ M) : hig xs k ≤ M := by
  induction k with
  | zero => exact hM
  | succ k ih =>
    have h1 := ih (fun i hi => h i (by omega))
    have h2 := h k (by omega)
    show cmf (hig xs k) (xs[k]?.getD 0) ≤ M
    unfold cmf
    split <;> omega
theorem rnm_vhd {os ns : List Int} (hv : vhd os = true) (hp : prm ns (hct os).toNat = true) : vhd (rnm os ns) = true ∧ hct (rnm os ns) = hct os := by
  obtain ⟨hl, hb, hs⟩ := vhd_iff hv
  have hc := hct_bd hv
  obtain ⟨p1, p2, p3⟩ := prm_iff.1 hp
  have hos : ∀ i, i < os.length → (os[i]?.getD 0).toNat < (hct os).toNat := fun i hi => by
    have h1 := hig_ge os hi
    have h2 := hb i hi
    unfold hct at *
    omega
  have hx : ∀ i, i < os.length → 0 ≤ (rnm os ns)[i]?.getD 0 ∧ (rnm os ns)[i]?.getD 0 < (hct os).toNat := fun i hi => by
    rw [rnm_get hi]
    exact p2 _ (hos i hi)
  have hseen : ∀ j : Nat, j < (hct os).toNat → ∃ i, i < os.length ∧ (rnm os ns)[i]?.getD 0 = j := fun j hj => by
    have hp' := of_decide_eq_true hp
    have := hp'.2 j hj
    unfold sn at this
    obtain ⟨h, hh, e⟩ := of_decide_eq_true this
    have h2 := hs h (by omega)
    unfold sn at h2
    obtain ⟨i, hi, e2⟩ := of_decide_eq_true h2
    exact ⟨i, hi, by rw [rnm_get hi, e2, Int.toNat_natCast, e]⟩
  have hh : hct (rnm os ns) = hct os := by
    have h1 : hig (rnm os ns) (rnm os ns).length ≤ hct os - 1 := hig_le (by omega) (fun i hi => by have := hx i (by rw [rnm_len] at hi; exact hi); omega)
    obtain ⟨i, hi, e⟩ := hseen ((hct os).toNat - 1) (by omega)
    have h2 := hig_ge (rnm os ns) (i := i) (k := (rnm os ns).length) (by rw [rnm_len]; exact hi)
    rw [e] at h2
    unfold hct at *
    omega
  refine ⟨vhd_yes ?_ (fun i hi => ?_) (fun j hj => ?_), hh⟩
  · rw [rnm_len, btw_iff]; omega
  · have := hx i (by rw [rnm_len] at hi; exact hi)
    rw [btw_iff]
    omega
  · rw [hh] at hj
    obtain ⟨i, hi, e⟩ := hseen j hj
    unfold sn
    exact decide_eq_true ⟨i, by rw [rnm_len]; exact hi, e⟩
/-- How often a hand throws in the first k beats. -/
def cnt (os : List Int) : Nat → Int → Int
  | 0, _ => 0
  | k + 1, h => cnt os k h + if thAt os k = h then 1 else 0
theorem th3 (z : Int) : thAt [3] z = 3 := by
  unfold thAt
  simp [Int.emod_one]
theorem tcn3 (k : Nat) : tcn [3] k = k := by
  induction k with
  | zero => rfl
  | succ k ih => simp [tcn, ih, th3]
theorem ldc3 (os : List Int) (K : Nat) (h : Int) : ∀ k, k ≤ K → ldc (htr [3] os K) k h = cnt os k h
  | 0, _ => rfl
  | k + 1, hk => by
    obtain ⟨z, h1, h2, h3, h4, h5, h6, h7⟩ := htr_row [3] os K k (by rw [tcn3]; omega)
    rw [tcn3] at h3
    rw [h3] at h6
    simp only [ldc, cnt]
    rw [ldc3 os K h k (by omega), h6]
theorem thAt_small {os : List Int} {k : Nat} (h : k < os.length) : thAt os k = os[k]?.getD 0 := by
  unfold thAt
  rw [Int.emod_eq_of_lt (by omega) (by omega), Int.toNat_natCast]
theorem cnt_rnm {os ns : List Int} (hv : vhd os = true) (hp : prm ns (hct os).toNat = true) {h : Nat} (hh : h < (hct os).toNat) : ∀ k, k ≤ os.length → cnt (rnm os ns) k (ns[h]?.getD 0) = cnt os k h
  | 0, _ => rfl
  | k + 1, hk => by
    obtain ⟨hl, hb, hs⟩ := vhd_iff hv
    obtain ⟨p1, p2, p3⟩ := prm_iff.1 hp
    simp only [cnt]
    rw [cnt_rnm hv hp hh k (by omega), thAt_small (by rw [rnm_len]; omega), thAt_small (by omega), rnm_get (by omega)]
    have h1 := hig_ge os (show k < os.length by omega)
    have h2 := hb k (by omega)
    have h3 : (os[k]?.getD 0).toNat < (hct os).toNat := by unfold hct; omega
    congr 1
    by_cases e : os[k]?.getD 0 = h
    · rw [e, Int.toNat_natCast]
      simp
    · rw [if_neg e, if_neg]
      intro e2
      rcases Nat.lt_or_ge (os[k]?.getD 0).toNat h with h4 | h4
      · exact p3 _ _ h4 hh e2
      · exact p3 h (os[k]?.getD 0).toNat (by omega) h3 e2.symm
theorem hcd3 {os : List Int} (hv : vhd os = true) : hcd [3] os = 0 := by
  unfold hcd
  rw [hv, show vpat [3] = true by decide]
  rfl
theorem ldv3 {os : List Int} (hv : vhd os = true) : ldv [3] os = ldl (htr [3] os os.length) os.length (hct os).toNat ∧ ldn [3] os = (hct os).toNat := by
  have e : cmp_ ([3] : List Int).length os.length = os.length := by simp [cmp_]
  refine ⟨?_, ?_⟩
  · unfold ldv
    rw [if_pos (hcd3 hv), e, tcn3]
  · unfold ldn
    rw [if_pos (hcd3 hv)]
theorem ldl_get {ys : List Int} {k H h : Nat} (hh : h < H) : (ldl ys k H)[h]?.getD 0 = ldc ys k h := by simp [ldl, hh]
/-- Renamed hands carry the same loads. -/
theorem renamed {os ns : List Int} (hv : vhd os = true) (hp : prm ns (hct os).toNat = true) {h : Nat} (hh : h < (hct os).toNat) : (ldv [3] (rnm os ns))[(ns[h]?.getD 0).toNat]?.getD 0 = (ldv [3] os)[h]?.getD 0 := by
  obtain ⟨v1, v2⟩ := rnm_vhd hv hp
  obtain ⟨p1, p2, p3⟩ := prm_iff.1 hp
  have := p2 h hh
  rw [(ldv3 v1).1, (ldv3 hv).1, v2, rnm_len, ldl_get (by omega), ldl_get hh, ldc3 _ _ _ _ (Nat.le_refl _), ldc3 _ _ _ _ (Nat.le_refl _), Int.toNat_of_nonneg this.1]
  exact cnt_rnm hv hp hh _ (Nat.le_refl _)
theorem rstf_ge {bs : List Int} {L : Int} {i : Nat} : ∀ j, i < j → nxt bs L i - bs[i]?.getD 0 ≤ rstf bs L j
  | 0, h => by omega
  | j + 1, h => by
    simp only [rstf]
    unfold cmf
    by_cases e : i = j
    · subst e
      split <;> omega
    · have := rstf_ge (bs := bs) (L := L) (i := i) j (by omega)
      split <;> omega
theorem gaps_le {bs : List Int} {L : Int} : ∀ k, k < bs.length → bs[k]?.getD 0 - bs[(0 : Nat)]?.getD (0 : Int) ≤ k * rst bs L
  | 0, h => by simp
  | k + 1, h => by
    have ih := gaps_le (bs := bs) (L := L) k (by omega)
    have := rstf_ge (bs := bs) (L := L) (i := k) bs.length (by omega)
    unfold nxt at this
    rw [if_pos h] at this
    unfold rst at *
    rw [show ((k + 1 : Nat) : Int) = (k : Int) + 1 by omega, Int.add_mul, Int.one_mul]
    omega
/-- All rests together are the common period: the longest one times the load is no less. -/
theorem rest_big {bs : List Int} {L : Int} (hb : 0 < bs.length) : L ≤ (bs.length : Int) * rst bs L := by
  have h1 := gaps_le (bs := bs) (L := L) (bs.length - 1) (by omega)
  have h2 := rstf_ge (bs := bs) (L := L) (i := bs.length - 1) bs.length (by omega)
  unfold nxt at h2
  rw [if_neg (by omega)] at h2
  have e : (bs.length : Int) = ((bs.length - 1 : Nat) : Int) + 1 := by omega
  rw [e, Int.add_mul, Int.one_mul]
  unfold rst at *
  omega
theorem rest_one {bs : List Int} {L : Int} (hL : 0 < L) (hb : bs.length = 1) : rst bs L = L := by
  unfold rst
  rw [hb]
  show cmf 0 (nxt bs L 0 - bs[(0 : Nat)]?.getD (0 : Int)) = L
  unfold nxt
  rw [if_neg (by omega), cmf_pos (by omega)]
  omega
theorem rest_zero {bs : List Int} {L : Int} (hb : bs.length = 0) : rst bs L = 0 := by
  unfold rst
  rw [hb]
  rfl
theorem bts_ldc (ys : List Int) (h : Int) (k : Nat) : ((bts ys h k).length : Int) = ldc ys k h := by
  induction k with
  | zero => rfl
  | succ k ih =>
    simp only [bts, ldc, List.length_append]
    rw [← ih]
    split <;> simp
/-- The loads of the first j hands together. -/
def sml (ys : List Int) (k : Nat) : Nat → Int
  | 0 => 0
  | j + 1 => sml ys k j + ldc ys k j
theorem sml_bd (ys : List Int) (k j : Nat) : 0 ≤ sml ys k j ∧ sml ys k j ≤ j * k := by
  induction j with
  | zero => simp [sml]
  | succ j ih =>
    have := ldc_bd ys k j
    simp only [sml]
    rw [show ((j + 1 : Nat) : Int) = (j : Int) + 1 by omega, Int.add_mul, Int.one_mul]
    omega
theorem sml_one {ys : List Int} {k : Nat} : ∀ j : Nat, sml ys (k + 1) j = sml ys k j + if 0 ≤ ys[k * 4 + 2]?.getD 0 ∧ ys[k * 4 + 2]?.getD 0 < j then 1 else 0
  | 0 => by simp [sml]; try omega
  | j + 1 => by
    have := sml_one (ys := ys) (k := k) j
    simp only [sml, ldc]
    rw [this]
    split <;> split <;> split <;> omega
theorem sml_all {ys : List Int} {H : Nat} : ∀ k : Nat, (∀ i, i < k → 0 ≤ ys[i * 4 + 2]?.getD 0 ∧ ys[i * 4 + 2]?.getD 0 < H) → sml ys k H = k
  | 0, _ => by
    have : ∀ j, sml ys 0 j = 0 := fun j => by induction j with
      | zero => rfl
      | succ j ih => simp [sml, ih, ldc]
    exact this H
  | k + 1, h => by
    rw [sml_one, sml_all k (fun i hi => h i (by omega)), if_pos (h k (by omega))]
    omega
end Go.Proofs.Ytdmjmnkcnohhlaa
