/- Whether all hands do the same: contracts of IsAmbidextrous. No condition but the stated bounds. -/
import Derived.Test.YtdmjmnkcnohhlaaApi
import Derived.Test.YtdmjmnkcnohhlaaLds
import Derived.Deep.RegionHeld3
namespace Go.Proofs.Ytdmjmnkcnohhlaa
set_option linter.unusedVariables false
set_option linter.unusedSimpArgs false
open Go.RowKit

/-- The throws of the hand h at the first k beats. -/
def vls (ps os : List Int) (h : Int) : Nat → List Int
  | 0 => []
  | k + 1 => vls ps os h k ++ if thAt os k = h then [thAt ps k] else []
theorem vls_yes {ps os : List Int} {h : Int} {k : Nat} (e : thAt os k = h) : vls ps os h (k + 1) = vls ps os h k ++ [thAt ps k] ∧ (vls ps os h (k + 1)).length = (vls ps os h k).length + 1 := by
  have : vls ps os h (k + 1) = vls ps os h k ++ [thAt ps k] := by simp only [vls]; rw [if_pos e]
  exact ⟨this, by rw [this]; simp⟩
theorem vls_no {ps os : List Int} {h : Int} {k : Nat} (e : ¬ thAt os k = h) : vls ps os h (k + 1) = vls ps os h k ∧ (vls ps os h (k + 1)).length = (vls ps os h k).length := by
  have : vls ps os h (k + 1) = vls ps os h k := by simp only [vls]; rw [if_neg e, List.append_nil]
  exact ⟨this, by rw [this]⟩
theorem vls_len (ps os : List Int) (h : Int) (k : Nat) : (vls ps os h k).length ≤ k := by
  induction k with
  | zero => exact Nat.le_refl _
  | succ k ih => simp only [vls, List.length_append]; split <;> simp <;> omega
theorem vls_bd {ps os : List Int} (hv : vpat ps = true) (h : Int) (k : Nat) : ∀ y ∈ vls ps os h k, 0 ≤ y ∧ y ≤ 15 := by
  induction k with
  | zero => intro y hy; cases hy
  | succ k ih =>
    intro y hy
    simp only [vls, List.mem_append] at hy
    rcases hy with hy | hy
    · exact ih y hy
    · split at hy
      · simp at hy
        subst hy
        exact thAt_bd hv k
      · cases hy
theorem vls_mono (ps os : List Int) (h : Int) {j k : Nat} (hj : j < k) (e : thAt os j = h) : 0 < (vls ps os h k).length := by
  induction k with
  | zero => omega
  | succ k ih =>
    by_cases h1 : j = k
    · subst h1
      rw [(vls_yes e).2]
      omega
    · have := ih (by omega)
      by_cases h2 : thAt os k = h
      · rw [(vls_yes h2).2]; omega
      · rw [(vls_no h2).2]; omega
theorem thAt_nat' {xs : List Int} {k : Nat} (hk : k < xs.length) : thAt xs k = xs[k]?.getD 0 := by
  unfold thAt
  rw [Int.emod_eq_of_lt (by omega) (by omega)]
  rfl
/-- Each hand throws at a beat of the common period. -/
theorem vls_pos {ps os : List Int} (hv : vpat ps = true) (ho : vhd os = true) {h : Nat} (hh : (h : Int) < hct os) : 0 < (vls ps os h (cmp_ ps.length os.length)).length := by
  obtain ⟨h1, h2, h3⟩ := vhd_iff ho
  have h4 := h3 h (by omega)
  unfold sn at h4
  obtain ⟨i, hi, he⟩ := of_decide_eq_true h4
  have hn := (thr_iff.1 (vpat_thr hv)).2
  have hL : os.length ≤ cmp_ ps.length os.length := Nat.le_of_dvd (cmp_bd hn h1).1 (Nat.dvd_lcm_right _ _)
  exact vls_mono ps os h (j := i) (by omega) (by rw [thAt_nat' hi]; exact he)
/-- ys is xs, begun at another place. -/
def trn (xs ys : List Int) : Bool := decide (∃ j, j < xs.length ∧ xs.drop j ++ xs.take j = ys)
theorem trn_yes {xs ys : List Int} {j : Nat} (hj : j < xs.length) (h : xs.drop j ++ xs.take j = ys) : trn xs ys = true := decide_eq_true ⟨j, hj, h⟩
theorem trn_no {xs ys : List Int} (h : ∀ j, j < xs.length → ¬ xs.drop j ++ xs.take j = ys) : trn xs ys = false := decide_eq_false fun ⟨j, hj, he⟩ => h j hj he
theorem trn_self {xs : List Int} (h : 0 < xs.length) : trn xs xs = true := trn_yes h (by simp)
theorem rot_get {xs : List Int} {j i : Nat} (hj : j < xs.length) (hi : i < xs.length) : (xs.drop j ++ xs.take j)[i]?.getD 0 = xs[(i + j) % xs.length]?.getD 0 := by
  by_cases h : i + j < xs.length
  · rw [List.getElem?_append_left (by rw [List.length_drop]; omega), List.getElem?_drop, Nat.mod_eq_of_lt h, Nat.add_comm]
  · rw [List.getElem?_append_right (by rw [List.length_drop]; omega), List.length_drop, List.getElem?_take, if_pos (by omega)]
    rw [Nat.mod_eq_sub_mod (by omega), Nat.mod_eq_of_lt (by omega)]
    congr 2
    omega
/-- The first i are alike. -/
def sme (xs ys : List Int) (j i : Nat) : Bool := decide (∀ k, k < i → xs[(k + j) % xs.length]?.getD 0 = ys[k]?.getD 0)
theorem sme_zero (xs ys : List Int) (j : Nat) : sme xs ys j 0 = true := decide_eq_true fun k hk => absurd hk (by omega)
theorem sme_succ (xs ys : List Int) (j i : Nat) : sme xs ys j (i + 1) = (sme xs ys j i && decide (xs[(i + j) % xs.length]?.getD 0 = ys[i]?.getD 0)) := by
  unfold sme
  rw [Bool.eq_iff_iff]
  simp only [Bool.and_eq_true, decide_eq_true_eq]
  constructor
  · intro h
    exact ⟨fun k hk => h k (by omega), h i (by omega)⟩
  · rintro ⟨h1, h2⟩ k hk
    by_cases e : k = i
    · rw [e]; exact h2
    · exact h1 k (by omega)
theorem sme_rot {xs ys : List Int} {j : Nat} (hj : j < xs.length) (hl : ys.length = xs.length) : sme xs ys j xs.length = decide (xs.drop j ++ xs.take j = ys) := by
  unfold sme
  rw [Bool.eq_iff_iff, decide_eq_true_iff, decide_eq_true_iff]
  constructor
  · intro h
    apply List.ext_getElem
    · rw [List.length_append, List.length_drop, List.length_take]; omega
    · intro i h1 h2
      have := h i (by omega)
      rw [← rot_get hj (by omega), List.getElem?_eq_getElem h1, List.getElem?_eq_getElem h2] at this
      simpa using this
  · intro h k hk
    rw [← rot_get hj hk, h]
set_option maxHeartbeats 2000000 in
theorem l14Values_any (A B : Option Addr) (n c m d : Nat) (ps os : List Int) (h : Int) (w : World) (hI : Ints w A n ps) (hJ : Ints w B m os) (hv : vpat ps = true) (ho : vhd os = true) :
    Calls Try.prog 53 #[.slice A n c, .slice B m d, .int .i64 h] w fun e w' => ∃ A1 c1, e = .returned (.slice A1 (vls ps os h (cmp_ n m)).length c1) ∧ OwnR 2 1 w w' (.slice A1 (vls ps os h (cmp_ n m)).length c1) (vls ps os h (cmp_ n m)).length (vls ps os h (cmp_ n m)) := by
  have hn : 1 ≤ n ∧ n ≤ 12 := by have := (thr_iff.1 (vpat_thr hv)).2; rw [hI.len] at this; exact this
  have hm : 1 ≤ m ∧ m ≤ 12 := by have := (vhd_iff ho).1; rw [hJ.len] at this; exact this
  have hcb := cmp_bd hn hm
  have HV := Lib.hid hv
  have HO := Lib.hid ho
  clear hv ho
  obtain ⟨L, hL⟩ : ∃ L, cmp_ n m = L := ⟨_, rfl⟩
  rw [hL] at hcb ⊢
  have HL : Hid ((cmp_ n m : Nat) = L) := hL
  clear hL
  have HT0 : Hid (∀ (wr : World) (v : Value), OwnR 2 1 w wr v (vls ps os h L).length (vls ps os h L) → ∃ A1 c1, Ending.returned v = .returned (.slice A1 (vls ps os h L).length c1) ∧ OwnR 2 1 w wr (.slice A1 (vls ps os h L).length c1) (vls ps os h L).length (vls ps os h L)) := by
    intro wr v ho
    obtain ⟨A1, c1, rfl⟩ := ho.forms
    exact ⟨A1, c1, rfl, ho⟩
  go_enter Try.func53, Try.ntmps53
  go_wp2
  go_loopw [7, 8] (fun v i wr => ∃ k : Nat, k ≤ L ∧ i = .int .i64 k ∧ OwnR 2 1 w wr v (vls ps os h k).length (vls ps os h k)) (fun _ i _ => L - (intOf i).toNat)
  case atStart => exact ⟨0, Nat.zero_le _, rfl, ownR_empty (Ext.refl _) _ _⟩
  case round =>
    obtain ⟨k, hk, rfl, hown⟩ := hrel
    have hx0 := hown.ext
    by_cases hlt : k < L
    · have hvl := vls_len ps os h k
      have htb := thAt_bd HV.out (k : Int)
      by_cases h0 : thAt os k = h
      · obtain ⟨hs, hn2⟩ := vls_yes (ps := ps) h0
        have HS := Lib.hid hs
        have HN := Lib.hid hn2
        have HX := Lib.hid h0
        clear hs hn2 h0
        go_wp2_with (first | (go_at_call 36; (with_reducible refine (l14Common_any _ _ n _ m _ _ hn hm).mono ?_); rw [HL.out]; rintro e w' ⟨rfl, rfl⟩) | (go_at_call 59; (with_reducible refine (l02At_any _ _ _ ps _ _ (hI.ext hx0) HV.out).mono ?_); rintro e w' ⟨rfl, rfl⟩) | (go_at_call 49; (with_reducible refine (l14At_any _ _ _ os _ _ (hJ.ext hx0) HO.out).mono ?_); rw [HX.out]; rintro e w' ⟨rfl, rfl⟩) | (at_builtin; refine appM elInt (by omega) rfl _ _ Try.underlying24 rfl rfl (hown.trans (by with_reducible (repeat (first | exact Ext.refl _ | apply Ext.drewN | apply Ext.drew | apply Ext.alloc | (refine Ext.set ?_ (by first | (simp; done) | (simp; omega) | omega) _) | (refine Ext.trans ?_ (by assumption)))))) (by omega) rfl (by first | exact heap_alloc_new _ _ | exact heap_alloc_set _ _ _ _ | exact heap_alloc_two _ _ _) (ys := [thAt ps k]) (by rfl) (by rfl) ?_; intro v' w3 hown'))
        go_roundw
        case rel => exact ⟨k + 1, by omega, by go_num, by rw [HN.out, HS.out]; exact hown'⟩
        case measure => simp [intOf]; omega
      · obtain ⟨hs, hn2⟩ := vls_no (ps := ps) h0
        have HS := Lib.hid hs
        clear hs hn2
        generalize hx : thAt os k = x at *
        have HX := Lib.hid hx
        have heq : (x == h) = false := by simpa using h0
        clear hx h0
        go_wp2_with (first | (go_at_call 36; (with_reducible refine (l14Common_any _ _ n _ m _ _ hn hm).mono ?_); rw [HL.out]; rintro e w' ⟨rfl, rfl⟩) | (go_at_call 59; (with_reducible refine (l02At_any _ _ _ ps _ _ (hI.ext hx0) HV.out).mono ?_); rintro e w' ⟨rfl, rfl⟩) | (go_at_call 49; (with_reducible refine (l14At_any _ _ _ os _ _ (hJ.ext hx0) HO.out).mono ?_); rw [HX.out]; rintro e w' ⟨rfl, rfl⟩))
        go_roundw
        case rel => exact ⟨k + 1, by omega, by go_num, by rw [HS.out]; exact hown⟩
        case measure => simp [intOf]; omega
    · obtain rfl : k = L := by omega
      go_wp2_with (first | (go_at_call 36; (with_reducible refine (l14Common_any _ _ n _ m _ _ hn hm).mono ?_); rw [HL.out]; rintro e w' ⟨rfl, rfl⟩))
      go_ret
      exact HT0.out _ _ hown
set_option maxHeartbeats 2000000 in
theorem throwsOf_any (A B : Option Addr) (n c m d : Nat) (ps os : List Int) (h : Int) (w : World) (hI : Ints w A n ps) (hJ : Ints w B m os) (hv : vpat ps = true) (ho : vhd os = true) :
    Calls Try.prog 51 #[.slice A n c, .slice B m d, .int .i64 h] w fun e w' => ∃ A1 c1, e = .returned (.slice A1 (vls ps os h (cmp_ n m)).length c1) ∧ OwnR 2 1 w w' (.slice A1 (vls ps os h (cmp_ n m)).length c1) (vls ps os h (cmp_ n m)).length (vls ps os h (cmp_ n m)) := by
  have hn : 1 ≤ n ∧ n ≤ 12 := by have := (thr_iff.1 (vpat_thr hv)).2; rw [hI.len] at this; exact this
  have hm : 1 ≤ m ∧ m ≤ 12 := by have := (vhd_iff ho).1; rw [hJ.len] at this; exact this
  have hcb := cmp_bd hn hm
  have HV := Lib.hid hv
  have HO := Lib.hid ho
  clear hv ho
  obtain ⟨L, hL⟩ : ∃ L, cmp_ n m = L := ⟨_, rfl⟩
  rw [hL] at hcb ⊢
  have HL : Hid ((cmp_ n m : Nat) = L) := hL
  clear hL
  have HT0 : Hid (∀ (wr : World) (v : Value), OwnR 2 1 w wr v (vls ps os h L).length (vls ps os h L) → ∃ A1 c1, Ending.returned v = .returned (.slice A1 (vls ps os h L).length c1) ∧ OwnR 2 1 w wr (.slice A1 (vls ps os h L).length c1) (vls ps os h L).length (vls ps os h L)) := by
    intro wr v ho
    obtain ⟨A1, c1, rfl⟩ := ho.forms
    exact ⟨A1, c1, rfl, ho⟩
  go_enter Try.func51, Try.ntmps51
  go_wp2_with (first | (go_at_call 34; (with_reducible refine (commonPeriod_any _ _ n _ m _ _ hn hm).mono ?_); rw [HL.out]; rintro e w2 ⟨rfl, hx2⟩))
  go_loopw [7, 13, 8] (fun v i _ wr => ∃ k : Nat, k ≤ L ∧ i = .int .i64 k ∧ OwnR 2 1 w wr v (vls ps os h k).length (vls ps os h k)) (fun _ i _ _ => L - (intOf i).toNat)
  case atStart => exact ⟨0, Nat.zero_le _, rfl, (ownR_empty (Ext.refl _) _ _).trans hx2⟩
  case round =>
    obtain ⟨k, hk, rfl, hown⟩ := hrel
    have hx0 := hown.ext
    by_cases hlt : k < L
    · have hvl := vls_len ps os h k
      have htb := thAt_bd HV.out (k : Int)
      by_cases h0 : thAt os k = h
      · obtain ⟨hs, hn2⟩ := vls_yes (ps := ps) h0
        have HS := Lib.hid hs
        have HN := Lib.hid hn2
        have HX := Lib.hid h0
        clear hs hn2 h0
        go_wp2_with (first | (go_at_call 57; (with_reducible refine (throwAt_any _ _ _ ps _ _ (hI.ext hx0) HV.out).mono ?_); rintro e w' ⟨rfl, rfl⟩) | (go_at_call 47; (with_reducible refine (handAt_any _ _ _ os _ _ (hJ.ext hx0) HO.out).mono ?_); rw [HX.out]; rintro e w' ⟨rfl, rfl⟩) | (at_builtin; refine appM elInt (by omega) rfl _ _ Try.underlying24 rfl rfl (hown.trans (by with_reducible (repeat (first | exact Ext.refl _ | apply Ext.drewN | apply Ext.drew | apply Ext.alloc | (refine Ext.set ?_ (by first | (simp; done) | (simp; omega) | omega) _) | (refine Ext.trans ?_ (by assumption)))))) (by omega) rfl (by first | exact heap_alloc_new _ _ | exact heap_alloc_set _ _ _ _ | exact heap_alloc_two _ _ _) (ys := [thAt ps k]) (by rfl) (by rfl) ?_; intro v' w3 hown'))
        go_roundw
        case rel => exact ⟨k + 1, by omega, by go_num, by rw [HN.out, HS.out]; exact hown'⟩
        case measure => simp [intOf]; omega
      · obtain ⟨hs, hn2⟩ := vls_no (ps := ps) h0
        have HS := Lib.hid hs
        clear hs hn2
        generalize hx : thAt os k = x at *
        have HX := Lib.hid hx
        have heq : (x == h) = false := by simpa using h0
        clear hx h0
        go_wp2_with (first | (go_at_call 57; (with_reducible refine (throwAt_any _ _ _ ps _ _ (hI.ext hx0) HV.out).mono ?_); rintro e w' ⟨rfl, rfl⟩) | (go_at_call 47; (with_reducible refine (handAt_any _ _ _ os _ _ (hJ.ext hx0) HO.out).mono ?_); rw [HX.out]; rintro e w' ⟨rfl, rfl⟩))
        go_roundw
        case rel => exact ⟨k + 1, by omega, by go_num, by rw [HS.out]; exact hown⟩
        case measure => simp [intOf]; omega
    · obtain rfl : k = L := by omega
      go_wp2
      go_ret
      exact HT0.out _ _ hown
set_option maxHeartbeats 2000000 in
theorem l14Turned_any (A B : Option Addr) (n c m d : Nat) (xs ys : List Int) (w : World) (hI : Ints w A n xs) (hJ : Ints w B m ys) (hn : 0 < n ∧ n ≤ 1000) (hm : m ≤ 1000) :
    Calls Try.prog 54 #[.slice A n c, .slice B m d] w fun e w' => e = .returned (.bool (trn xs ys)) ∧ Qt w w' := by
  have HL := Lib.hid hI.len
  by_cases hnm : n = m
  · subst hnm
    have hl2 := hJ.len
    have HL2 := Lib.hid hl2
    clear hl2
    go_enter Try.func54, Try.ntmps54
    go_wp2
    go_loopw [6, 7, 8] (fun i _ _ wr => ∃ j : Nat, j ≤ n ∧ i = .int .i64 j ∧ Qt w wr ∧ ∀ k, k < j → ¬ xs.drop k ++ xs.take k = ys) (fun i _ _ _ => n - (intOf i).toNat)
    case atStart => exact ⟨0, Nat.zero_le _, rfl, Qt.refl _, fun j h => absurd h (by omega)⟩
    case round =>
      obtain ⟨j, hj, rfl, ⟨q, rfl⟩, hno⟩ := hrel
      have HN := Lib.hid hno
      clear hno
      by_cases hlt : j < n
      · have ij : (j : Int) < n := by omega
        have HRT : Hid (sme xs ys j n = decide (xs.drop j ++ xs.take j = ys)) := by
          have := sme_rot (xs := xs) (ys := ys) (j := j) (by rw [HL.out]; exact hlt) (by rw [HL.out, HL2.out])
          rw [HL.out] at this
          exact this
        go_wp2
        go_loopw [7, 8] (fun s i wr => ∃ k : Nat, k ≤ n ∧ i = .int .i64 k ∧ s = .bool (sme xs ys j k) ∧ Qt w wr) (fun _ i _ => n - (intOf i).toNat)
        case atStart => exact ⟨0, Nat.zero_le _, rfl, by rw [sme_zero], ⟨q, rfl⟩⟩
        case round =>
          obtain ⟨k, hk, rfl, rfl, ⟨q2, rfl⟩⟩ := hrel
          by_cases hkl : k < n
          · have ik : (k : Int) < n := by omega
            have HS := Lib.hid (sme_succ xs ys j k)
            cases hsm : sme xs ys j k
            · have HS2 : Hid (sme xs ys j (k + 1) = false) := by show _ = _; rw [HS.out, hsm]; rfl
              clear hsm
              go_wp2
              go_quiet (fail)
              go_wp2
              go_roundw
              case rel => exact ⟨k + 1, by omega, by go_num, by rw [HS2.out], (by first | exact ⟨_, rfl⟩ | exact ⟨_, World.drewN_drewN _ _ _⟩)⟩
              case measure => simp [intOf]; omega
            · obtain ⟨b, off, hA, hb, hcell⟩ := hI.at_ (by omega)
              obtain ⟨b2, off2, hB, hb2, hcell2⟩ := hJ.at_ (by omega)
              subst hA hB
              obtain ⟨r, hr⟩ : ∃ r, (k + j) % n = r := ⟨_, rfl⟩
              have hrn : r < n := by rw [← hr]; exact Nat.mod_lt _ hn.1
              have c1 := hcell r hrn
              have c2 := hcell2 k hkl
              have e0 : IntKind.i64.wrap ((k : Int) + j) = (k : Int) + j := IntWalk.i64_in _ (by omega)
              have e1 : ((k : Int) + j) % n = r := by rw [← hr, Int.natCast_emod, Int.natCast_add]
              have e2 : ((k : Int) + j).tmod n = r := by rw [Int.tmod_eq_emod_of_nonneg (by omega)]; exact e1
              have ir : (r : Int) < n := by omega
              rw [HL.out, hr, hsm, Bool.true_and] at HS
              clear hcell hcell2 hsm hr
              by_cases he : xs[r]?.getD 0 = ys[k]?.getD 0
              · have HS2 : Hid (sme xs ys j (k + 1) = true) := by show _ = _; rw [HS.out]; exact decide_eq_true he
                rw [he] at c1
                clear he HS
                go_wp2
                go_quiet (fail)
                go_wp2
                go_roundw
                case rel => exact ⟨k + 1, by omega, by go_num, by rw [HS2.out], (by first | exact ⟨_, rfl⟩ | exact ⟨_, World.drewN_drewN _ _ _⟩)⟩
                case measure => simp [intOf]; omega
              · have HS2 : Hid (sme xs ys j (k + 1) = false) := by show _ = _; rw [HS.out]; exact decide_eq_false he
                have hne : (xs[r]?.getD 0 == ys[k]?.getD 0) = false := by simpa using he
                clear he HS
                generalize xs[r]?.getD 0 = u at *
                generalize ys[k]?.getD 0 = v at *
                go_wp2
                go_quiet (fail)
                go_wp2
                go_roundw
                case rel => exact ⟨k + 1, by omega, by go_num, by rw [HS2.out], (by first | exact ⟨_, rfl⟩ | exact ⟨_, World.drewN_drewN _ _ _⟩)⟩
                case measure => simp [intOf]; omega
          · obtain rfl : k = n := by omega
            by_cases hf : xs.drop j ++ xs.take j = ys
            · have HR : Hid (trn xs ys = true) := trn_yes (by rw [HL.out]; exact hlt) hf
              have hs1 : sme xs ys j k = true := by rw [HRT.out]; exact decide_eq_true hf
              rw [hs1]
              clear hs1
              go_wp2
              go_ret
              exact ⟨ret_bool HR.out.symm, (by first | exact ⟨_, rfl⟩ | exact ⟨_, World.drewN_drewN _ _ _⟩)⟩
            · have HN2 : Hid (∀ i, i < j + 1 → ¬ xs.drop i ++ xs.take i = ys) := fun i hi => by
                by_cases e : i = j
                · rw [e]; exact hf
                · exact HN.out i (by omega)
              have hs1 : sme xs ys j k = false := by rw [HRT.out]; exact decide_eq_false hf
              rw [hs1]
              clear hs1
              go_wp2
              go_roundw
              case rel => exact ⟨j + 1, by omega, by go_num, (by first | exact ⟨_, rfl⟩ | exact ⟨_, World.drewN_drewN _ _ _⟩), HN2.out⟩
              case measure => simp [intOf]; omega
      · have HR : Hid (trn xs ys = false) := trn_no (fun i hi => HN.out i (by rw [HL.out] at hi; omega))
        obtain rfl : j = n := by omega
        go_wp2
        go_ret
        exact ⟨ret_bool HR.out.symm, (by first | exact ⟨_, rfl⟩ | exact ⟨_, World.drewN_drewN _ _ _⟩)⟩
  · have HR : Hid (trn xs ys = false) := trn_no (fun i hi h => hnm (by rw [← hI.len, ← hJ.len, ← h, List.length_append, List.length_drop, List.length_take]; omega))
    have h1 : ((n : Int) == m) = false := by simp; omega
    have hn0 : (0 : Int) < n := by omega
    have hn1 : 0 < n := hn.1
    go_enter Try.func54, Try.ntmps54
    go_wp2
    go_loop [6] (fun i => i = .int .i64 0) (fun i => 0)
    case atStart => exact rfl
    case round =>
      subst hrel
      go_wp2
      go_ret
      exact ⟨ret_bool HR.out.symm, Qt.refl _⟩
theorem rot_mem {xs : List Int} {j : Nat} {y : Int} (h : y ∈ xs.drop j ++ xs.take j) : y ∈ xs := by
  rw [List.mem_append] at h
  rcases h with h | h
  · exact List.mem_of_mem_drop h
  · exact List.mem_of_mem_take h
theorem ints_cast {w : World} {A : Option Addr} {n m : Nat} {xs : List Int} (e : n = m) (h : Ints w A n xs) : Ints w A m xs := e ▸ h
theorem own_slice {w : World} {base size n : Nat} {e : TypeId} {v : Value} {xs : List Value} (h : w.ownsRow base e size v n xs) : ∃ A c, v = .slice A n c := by
  rcases Go.Joins.ownsRow_forms h with ⟨rfl, h0⟩ | ⟨g, cap, rfl⟩
  · exact ⟨none, 0, by rw [h0]⟩
  · exact ⟨_, _, rfl⟩
set_option maxHeartbeats 2000000 in
theorem isTurned_any (b off : Nat) (B : Option Addr) (n c m d : Nat) (xs ys : List Int) (w : World) (hI : Ints w (some ⟨b, off, none⟩) n xs) (hJ : Ints w B m ys) (hn : 0 < n ∧ n ≤ 1000) (hm : m ≤ 1000) (hc : n ≤ c) :
    Calls Try.prog 50 #[.slice (some ⟨b, off, none⟩) n c, .slice B m d] w fun e w' => e = .returned (.bool (trn xs ys)) ∧ Ext w w' := by
  have HL := Lib.hid hI.len
  have HBD := Lib.hid hI.bds
  by_cases hnm : n = m
  · subst hnm
    go_enter Try.func50, Try.ntmps50
    go_wp2
    go_loopw [13, 5] (fun i _ wr => ∃ j : Nat, j ≤ n ∧ i = .int .i64 j ∧ Ext w wr ∧ ∀ k, k < j → ¬ xs.drop k ++ xs.take k = ys) (fun i _ _ => n - (intOf i).toNat)
    case atStart => exact ⟨0, Nat.zero_le _, rfl, Ext.refl _, fun j h => absurd h (by omega)⟩
    case round =>
      obtain ⟨j, hj, rfl, hxr, hno⟩ := hrel
      have HN := Lib.hid hno
      clear hno
      by_cases hlt : j < n
      · have ij : (j : Int) < n := by omega
        have hjc : ¬ c = j := by omega
        have hjc2 : j ≤ c := by omega
        have hIr := hI.ext hxr
        have hd := hIr.drop (k := j) (by omega)
        have ht := hIr.take (k := j) (by omega)
        cases hf : decide (xs.drop j ++ xs.take j = ys)
        · have HN2 : Hid (∀ i, i < j + 1 → ¬ xs.drop i ++ xs.take i = ys) := fun i hi => by
            by_cases e : i = j
            · rw [e]; exact of_decide_eq_false hf
            · exact HN.out i (by omega)
          go_wp2
          go_region_held3 (fun _ => True) (trivial)
            (first | (go_at_call 68; (with_reducible refine (copyNumbers_any _ _ _ (xs.drop j) _ (hd.ext (by with_reducible (repeat (first | exact Ext.refl _ | apply Ext.drewN | apply Ext.drew | apply Ext.alloc | (refine Ext.set ?_ (by first | (simp; done) | (simp; omega) | omega) _) | (refine Ext.trans ?_ (by assumption)))))) (by omega)).mono ?_); rintro e w2 ⟨A1, c1, rfl, ho⟩; have hx2 : Ext wr w2 := (Ext.refl wr).drew.trans ho.ext) | (go_at_call 67; (with_reducible refine (sameNumbers_is _ _ _ _ _ _ (xs.drop j ++ xs.take j) ys _ HI3.out (hJ.ext (hxr.trans hx3)) _ hf).mono ?_); rintro e w4 ⟨rfl, q, rfl⟩) | ((refine stepI (by rfl) _ _ (by rfl) (by rfl) ho.own ho.ext.size (by rfl) (ht.ext hx2) (by omega) ?_); intro v' w3 ho' hg' hat'; obtain ⟨A3, c3, rfl⟩ := own_slice ho'; have HI3 : Hid (Ints w3 A3 n (xs.drop j ++ xs.take j)) := ints_cast (Nat.sub_add_cancel hj) (Ints.of_own ho' (by omega) (fun y hy => HBD.out y (rot_mem hy))); have hx3 : Ext wr w3 := hx2.grown hg' (fun k hk => (World.ownsRow.lt ho.own k hk).1)) | fail)
          go_wp2
          go_roundw
          case rel => exact ⟨j + 1, by omega, by go_num, (hxr.trans hx3).drewN q, HN2.out⟩
          case measure => simp [intOf]; omega
        · have HR : Hid (trn xs ys = true) := trn_yes (by rw [HL.out]; exact hlt) (of_decide_eq_true hf)
          go_wp2
          go_region_held3 (fun _ => True) (trivial)
            (first | (go_at_call 68; (with_reducible refine (copyNumbers_any _ _ _ (xs.drop j) _ (hd.ext (by with_reducible (repeat (first | exact Ext.refl _ | apply Ext.drewN | apply Ext.drew | apply Ext.alloc | (refine Ext.set ?_ (by first | (simp; done) | (simp; omega) | omega) _) | (refine Ext.trans ?_ (by assumption)))))) (by omega)).mono ?_); rintro e w2 ⟨A1, c1, rfl, ho⟩; have hx2 : Ext wr w2 := (Ext.refl wr).drew.trans ho.ext) | (go_at_call 67; (with_reducible refine (sameNumbers_is _ _ _ _ _ _ (xs.drop j ++ xs.take j) ys _ HI3.out (hJ.ext (hxr.trans hx3)) _ hf).mono ?_); rintro e w4 ⟨rfl, q, rfl⟩) | ((refine stepI (by rfl) _ _ (by rfl) (by rfl) ho.own ho.ext.size (by rfl) (ht.ext hx2) (by omega) ?_); intro v' w3 ho' hg' hat'; obtain ⟨A3, c3, rfl⟩ := own_slice ho'; have HI3 : Hid (Ints w3 A3 n (xs.drop j ++ xs.take j)) := ints_cast (Nat.sub_add_cancel hj) (Ints.of_own ho' (by omega) (fun y hy => HBD.out y (rot_mem hy))); have hx3 : Ext wr w3 := hx2.grown hg' (fun k hk => (World.ownsRow.lt ho.own k hk).1)) | fail)
          go_wp2
          go_ret
          exact ⟨ret_bool HR.out.symm, (hxr.trans hx3).drewN q⟩
      · have HR : Hid (trn xs ys = false) := trn_no (fun i hi => HN.out i (by rw [HL.out] at hi; omega))
        obtain rfl : j = n := by omega
        have hn0 : ((j : Int) == 0) = false := by simp; omega
        go_wp2
        go_ret
        exact ⟨ret_bool HR.out.symm, hxr⟩
  · have HR : Hid (trn xs ys = false) := trn_no (fun i hi h => hnm (by rw [← hI.len, ← hJ.len, ← h, List.length_append, List.length_drop, List.length_take]; omega))
    have h1 : ((n : Int) != m) = true := by simp; omega
    go_enter Try.func50, Try.ntmps50
    go_wp2
    go_ret
    exact ⟨ret_bool HR.out.symm, Ext.refl _⟩
instance (ps os : List Int) : Decidable (∀ h : Nat, (h : Int) < hct os → trn (vls ps os 0 (cmp_ ps.length os.length)) (vls ps os h (cmp_ ps.length os.length)) = true) :=
  decidable_of_iff (∀ h, h < (hct os).toNat → trn (vls ps os 0 (cmp_ ps.length os.length)) (vls ps os (h : Nat) (cmp_ ps.length os.length)) = true) ⟨fun H h hh => H h (by omega), fun H h hh => H h (by omega)⟩
/-- All hands do the same. -/
def amb (ps os : List Int) : Bool := (vpat ps && vhd os) && decide (∀ h : Nat, (h : Int) < hct os → trn (vls ps os 0 (cmp_ ps.length os.length)) (vls ps os h (cmp_ ps.length os.length)) = true)
theorem amb_bad {ps os : List Int} (h : (vpat ps && vhd os) = false) : amb ps os = false := by unfold amb; rw [h]; rfl
theorem amb_no {ps os : List Int} {h : Nat} (hh : (h : Int) < hct os) (ht : trn (vls ps os 0 (cmp_ ps.length os.length)) (vls ps os h (cmp_ ps.length os.length)) = false) : amb ps os = false := by
  unfold amb
  rw [decide_eq_false (fun H => by have := H h hh; rw [ht] at this; cases this), Bool.and_false]
theorem amb_yes {ps os : List Int} {k : Nat} (hk : hct os ≤ k) (h0 : (vpat ps && vhd os) = true) (h : ∀ h : Nat, h < k → trn (vls ps os 0 (cmp_ ps.length os.length)) (vls ps os h (cmp_ ps.length os.length)) = true) : amb ps os = true := by
  unfold amb
  rw [h0, decide_eq_true (fun i hi => h i (by omega))]
  rfl
set_option maxHeartbeats 2000000 in
theorem specIsAmbidextrous_yes (A : Option Addr) (n c : Nat) (ps : List Int) (B : Option Addr) (m d : Nat) (os : List Int) (w : World) (hI : Ints w A n ps) (hJ : Ints w B m os) (hr : hcd ps os = 0) :
    Calls Try.prog 26 #[.slice A n c, .slice B m d] w fun e w' => e = .returned (.bool (amb ps os)) ∧ Ext w w' := by
  obtain ⟨hv, ho⟩ := hcd_zero hr
  have hcb := cmp_bd (thr_iff.1 (vpat_thr hv)).2 (vhd_iff ho).1
  have hom := (vhd_iff ho).1
  rw [hJ.len] at hom
  have hHb := hct_bd ho
  obtain ⟨H, hH⟩ : ∃ H : Nat, hct os = H := ⟨(hct os).toNat, by omega⟩
  have HOB := Lib.hid (vhd_iff ho).2.1
  rw [hJ.len] at HOB
  have HPO := Lib.hid (show ∀ h : Nat, h < H → 0 < (vls ps os h (cmp_ ps.length os.length)).length from fun h hh => vls_pos hv ho (by omega))
  have HLE := Lib.hid (show ∀ h : Int, (vls ps os h (cmp_ ps.length os.length)).length ≤ 144 from fun h => Nat.le_trans (vls_len ps os h _) hcb.2)
  have HBB := Lib.hid (show ∀ h : Int, ∀ y ∈ vls ps os h (cmp_ ps.length os.length), 0 ≤ y ∧ y ≤ 15 from fun h => vls_bd hv h _)
  have HY0 : Hid ((vpat ps && vhd os) = true) := by show _ = _; rw [hv, ho]; rfl
  have HAN := Lib.hid (show ∀ h : Nat, h < H → trn (vls ps os 0 (cmp_ ps.length os.length)) (vls ps os h (cmp_ ps.length os.length)) = false → amb ps os = false from fun h hh => amb_no (by omega))
  have HAY := Lib.hid (show (∀ h : Nat, h < H → trn (vls ps os 0 (cmp_ ps.length os.length)) (vls ps os h (cmp_ ps.length os.length)) = true) → amb ps os = true from fun h => amb_yes (by omega) HY0.out h)
  rw [hI.len, hJ.len] at HPO HLE HBB HAN HAY
  have HH := Lib.hid hH
  have HC := Lib.hid hr
  have HV := Lib.hid hv
  have HO := Lib.hid ho
  have hH4 : 1 ≤ H ∧ H ≤ 4 := by omega
  clear hr hv ho hHb hH hcb
  generalize hV : (fun h : Int => vls ps os h (cmp_ n m)) = V at *
  have hVe : ∀ h : Int, vls ps os h (cmp_ n m) = V h := fun h => by rw [← hV]
  simp only [hVe] at HPO HLE HBB HAN HAY
  have HVE := Lib.hid hVe
  clear hVe hV
  go_enter Try.func26, Try.ntmps26
  go_wp2_with (first | (go_at_call 52; (with_reducible refine (l02Ok_is _ _ _ ps _ HV.out _ (hI.ext (by with_reducible (repeat (first | exact Ext.refl _ | apply Ext.drewN | apply Ext.drew | apply Ext.alloc | (refine Ext.set ?_ (by first | (simp; done) | (simp; omega) | omega) _) | (refine Ext.trans ?_ (by assumption))))))).mono ?_); rintro e w' ⟨rfl, nq, rfl⟩) | (go_at_call 43; (with_reducible refine (l14Ok_is _ _ _ os _ (hJ.ext (by with_reducible (repeat (first | exact Ext.refl _ | apply Ext.drewN | apply Ext.drew | apply Ext.alloc | (refine Ext.set ?_ (by first | (simp; done) | (simp; omega) | omega) _) | (refine Ext.trans ?_ (by assumption)))))) _ HO.out).mono ?_); rintro e w' ⟨rfl, rfl⟩) | (go_at_call 53; (with_reducible refine (l14Values_any _ _ n _ m _ ps os _ _ (hI.ext (by with_reducible (repeat (first | exact Ext.refl _ | apply Ext.drewN | apply Ext.drew | apply Ext.alloc | (refine Ext.set ?_ (by first | (simp; done) | (simp; omega) | omega) _) | (refine Ext.trans ?_ (by assumption)))))) (hJ.ext (by with_reducible (repeat (first | exact Ext.refl _ | apply Ext.drewN | apply Ext.drew | apply Ext.alloc | (refine Ext.set ?_ (by first | (simp; done) | (simp; omega) | omega) _) | (refine Ext.trans ?_ (by assumption)))))) HV.out HO.out).mono ?_); rw [HVE.out 0]; rintro e w2 ⟨A1, c1, rfl, ho⟩))
  have hJ2 := ho.row.ints (by have := HLE.out 0; omega) (fun y hy => by have := HBB.out 0 y hy; omega)
  rw [Nat.mul_one] at hJ2
  have hp0 : 0 < (V 0).length := HPO.out 0 (by omega)
  have hl0 := HLE.out 0
  have hxw : Ext w w2 := Ext.trans (by with_reducible (repeat (first | exact Ext.refl _ | apply Ext.drewN | apply Ext.drew | apply Ext.alloc | (refine Ext.set ?_ (by first | (simp; done) | (simp; omega) | omega) _) | (refine Ext.trans ?_ (by assumption))))) ho.ext
  go_loopw [6] (fun i wr => ∃ k : Nat, 1 ≤ k ∧ k ≤ H ∧ i = .int .i64 k ∧ Ext w2 wr ∧ ∀ h : Nat, h < k → trn (V 0) (V h) = true) (fun i _ => H - (intOf i).toNat)
  case atStart => exact ⟨1, by omega, by omega, rfl, Ext.refl _, fun h hh => by (obtain rfl : h = 0 := (by omega)); exact trn_self hp0⟩
  case round =>
    obtain ⟨k, hk1, hk, rfl, hx2, hall⟩ := hrel
    have HA := Lib.hid hall
    clear hall
    have hx0 : Ext w wr := hxw.trans hx2
    by_cases hlt : k < H
    · have hlk := HLE.out k
      have HBK := Lib.hid (HBB.out k)
      cases ht : trn (V 0) (V k)
      · have HR : Hid (amb ps os = false) := HAN.out k hlt ht
        go_wp2_with (first | (go_at_call 32; (with_reducible refine (l14Count_any _ _ _ os _ (hJ.ext hx0) HOB.out (by omega) (by omega)).mono ?_); rw [HH.out]; rintro e w' ⟨rfl, rfl⟩) | (go_at_call 53; (with_reducible refine (l14Values_any _ _ n _ m _ ps os _ _ (hI.ext hx0) (hJ.ext hx0) HV.out HO.out).mono ?_); rw [HVE.out k]; rintro e w3 ⟨A3, c3, rfl, ho3⟩; have hJ3 := ho3.row.ints (by omega) (fun y hy => by have := HBK.out y hy; omega); rw [Nat.mul_one] at hJ3) | (go_at_call 54; (with_reducible refine (l14Turned_any _ _ _ _ _ _ (V 0) (V k) _ (hJ2.ext (hx2.trans ho3.ext)) hJ3 (by omega) (by omega)).mono ?_); rw [ht]; rintro e w4 ⟨rfl, q, rfl⟩))
        go_ret
        exact ⟨ret_bool HR.out.symm, (hx0.trans ho3.ext).drewN q⟩
      · have HA2 : Hid (∀ h : Nat, h < k + 1 → trn (V 0) (V h) = true) := fun h hh => by
          by_cases e : h = k
          · rw [e]; exact ht
          · exact HA.out h (by omega)
        go_wp2_with (first | (go_at_call 32; (with_reducible refine (l14Count_any _ _ _ os _ (hJ.ext hx0) HOB.out (by omega) (by omega)).mono ?_); rw [HH.out]; rintro e w' ⟨rfl, rfl⟩) | (go_at_call 53; (with_reducible refine (l14Values_any _ _ n _ m _ ps os _ _ (hI.ext hx0) (hJ.ext hx0) HV.out HO.out).mono ?_); rw [HVE.out k]; rintro e w3 ⟨A3, c3, rfl, ho3⟩; have hJ3 := ho3.row.ints (by omega) (fun y hy => by have := HBK.out y hy; omega); rw [Nat.mul_one] at hJ3) | (go_at_call 54; (with_reducible refine (l14Turned_any _ _ _ _ _ _ (V 0) (V k) _ (hJ2.ext (hx2.trans ho3.ext)) hJ3 (by omega) (by omega)).mono ?_); rw [ht]; rintro e w4 ⟨rfl, q, rfl⟩))
        go_roundw
        case rel => exact ⟨k + 1, by omega, by omega, by go_num, (hx2.trans ho3.ext).drewN q, HA2.out⟩
        case measure => simp [intOf]; omega
    · have HR : Hid (amb ps os = true) := HAY.out (fun h hh => HA.out h (by omega))
      go_wp2_with (first | (go_at_call 32; (with_reducible refine (l14Count_any _ _ _ os _ (hJ.ext hx0) HOB.out (by omega) (by omega)).mono ?_); rw [HH.out]; rintro e w' ⟨rfl, rfl⟩))
      go_ret
      exact ⟨ret_bool HR.out.symm, hx0⟩
theorem specIsAmbidextrous_ret (A : Option Addr) (n c : Nat) (ps : List Int) (B : Option Addr) (m d : Nat) (os : List Int) (w : World) (hI : Ints w A n ps) (hJ : Ints w B m os) :
    Calls Try.prog 26 #[.slice A n c, .slice B m d] w fun e w' => e = .returned (.bool (amb ps os)) ∧ Ext w w' := by
  by_cases hr : hcd ps os = 0
  · exact specIsAmbidextrous_yes A n c ps B m d os w hI hJ hr
  · have h0 : (vpat ps && vhd os) = false := by unfold hcd at hr; cases hb : (vpat ps && vhd os) <;> simp_all
    have HR : Hid (amb ps os = false) := amb_bad h0
    cases hv : vpat ps
    · go_enter Try.func26, Try.ntmps26
      go_wp2_with (first | (go_at_call 52; (with_reducible refine (l02Ok_is _ _ _ ps _ hv _ (hI.ext (by with_reducible (repeat (first | exact Ext.refl _ | apply Ext.drewN | apply Ext.drew | apply Ext.alloc | (refine Ext.set ?_ (by first | (simp; done) | (simp; omega) | omega) _) | (refine Ext.trans ?_ (by assumption))))))).mono ?_); rintro e w' ⟨rfl, nq, rfl⟩))
      go_ret
      exact ⟨ret_bool HR.out.symm, (by with_reducible (repeat (first | exact Ext.refl _ | apply Ext.drewN | apply Ext.drew | apply Ext.alloc | (refine Ext.set ?_ (by first | (simp; done) | (simp; omega) | omega) _) | (refine Ext.trans ?_ (by assumption)))))⟩
    · rw [hv, Bool.true_and] at h0
      have H0 := Lib.hid h0
      have HV := Lib.hid hv
      clear h0 hr hv
      go_enter Try.func26, Try.ntmps26
      go_wp2_with (first | (go_at_call 52; (with_reducible refine (l02Ok_is _ _ _ ps _ HV.out _ (hI.ext (by with_reducible (repeat (first | exact Ext.refl _ | apply Ext.drewN | apply Ext.drew | apply Ext.alloc | (refine Ext.set ?_ (by first | (simp; done) | (simp; omega) | omega) _) | (refine Ext.trans ?_ (by assumption))))))).mono ?_); rintro e w' ⟨rfl, nq, rfl⟩) | (go_at_call 43; (with_reducible refine (l14Ok_is _ _ _ os _ (hJ.ext (by with_reducible (repeat (first | exact Ext.refl _ | apply Ext.drewN | apply Ext.drew | apply Ext.alloc | (refine Ext.set ?_ (by first | (simp; done) | (simp; omega) | omega) _) | (refine Ext.trans ?_ (by assumption)))))) _ H0.out).mono ?_); rintro e w' ⟨rfl, rfl⟩))
      go_ret
      exact ⟨ret_bool HR.out.symm, (by with_reducible (repeat (first | exact Ext.refl _ | apply Ext.drewN | apply Ext.drew | apply Ext.alloc | (refine Ext.set ?_ (by first | (simp; done) | (simp; omega) | omega) _) | (refine Ext.trans ?_ (by assumption)))))⟩
theorem own_cap {w : World} {base n c : Nat} {e : TypeId} {A : Option Addr} {xs : List Value} (h : w.ownsRow base e 1 (.slice A n c) n xs) (h0 : 0 < n) : n ≤ c := by
  rcases h.2 with ⟨h1, h2⟩ | ⟨g, cap, cur, h1, _, _, h3, _⟩
  · omega
  · simp only [Value.slice.injEq] at h1
    omega
set_option maxHeartbeats 2000000 in
theorem implIsAmbidextrous_yes (A : Option Addr) (n c : Nat) (ps : List Int) (B : Option Addr) (m d : Nat) (os : List Int) (w : World) (hI : Ints w A n ps) (hJ : Ints w B m os) (hr : hcd ps os = 0) :
    Calls Try.prog 25 #[.slice A n c, .slice B m d] w fun e w' => e = .returned (.bool (amb ps os)) ∧ Ext w w' := by
  obtain ⟨hv, ho⟩ := hcd_zero hr
  have hcb := cmp_bd (thr_iff.1 (vpat_thr hv)).2 (vhd_iff ho).1
  have hom := (vhd_iff ho).1
  rw [hJ.len] at hom
  have hHb := hct_bd ho
  obtain ⟨H, hH⟩ : ∃ H : Nat, hct os = H := ⟨(hct os).toNat, by omega⟩
  have HOB := Lib.hid (vhd_iff ho).2.1
  rw [hJ.len] at HOB
  have HPO := Lib.hid (show ∀ h : Nat, h < H → 0 < (vls ps os h (cmp_ ps.length os.length)).length from fun h hh => vls_pos hv ho (by omega))
  have HLE := Lib.hid (show ∀ h : Int, (vls ps os h (cmp_ ps.length os.length)).length ≤ 144 from fun h => Nat.le_trans (vls_len ps os h _) hcb.2)
  have HBB := Lib.hid (show ∀ h : Int, ∀ y ∈ vls ps os h (cmp_ ps.length os.length), 0 ≤ y ∧ y ≤ 15 from fun h => vls_bd hv h _)
  have HY0 : Hid ((vpat ps && vhd os) = true) := by show _ = _; rw [hv, ho]; rfl
  have HAN := Lib.hid (show ∀ h : Nat, h < H → trn (vls ps os 0 (cmp_ ps.length os.length)) (vls ps os h (cmp_ ps.length os.length)) = false → amb ps os = false from fun h hh => amb_no (by omega))
  have HAY := Lib.hid (show (∀ h : Nat, h < H → trn (vls ps os 0 (cmp_ ps.length os.length)) (vls ps os h (cmp_ ps.length os.length)) = true) → amb ps os = true from fun h => amb_yes (by omega) HY0.out h)
  rw [hI.len, hJ.len] at HPO HLE HBB HAN HAY
  have HH := Lib.hid hH
  have HC := Lib.hid hr
  have HV := Lib.hid hv
  have HO := Lib.hid ho
  have hH4 : 1 ≤ H ∧ H ≤ 4 := by omega
  clear hr hv ho hHb hH hcb
  generalize hV : (fun h : Int => vls ps os h (cmp_ n m)) = V at *
  have hVe : ∀ h : Int, vls ps os h (cmp_ n m) = V h := fun h => by rw [← hV]
  simp only [hVe] at HPO HLE HBB HAN HAY
  have HVE := Lib.hid hVe
  clear hVe hV
  have hp0 : 0 < (V 0).length := HPO.out 0 (by omega)
  have hl0 := HLE.out 0
  go_enter Try.func25, Try.ntmps25
  go_wp2_with (first | (go_at_call 28; (with_reducible refine (areHanded_yes _ _ _ _ _ _ ps os _ (hI.ext (by with_reducible (repeat (first | exact Ext.refl _ | apply Ext.drewN | apply Ext.drew | apply Ext.alloc | (refine Ext.set ?_ (by first | (simp; done) | (simp; omega) | omega) _) | (refine Ext.trans ?_ (by assumption)))))) (hJ.ext (by with_reducible (repeat (first | exact Ext.refl _ | apply Ext.drewN | apply Ext.drew | apply Ext.alloc | (refine Ext.set ?_ (by first | (simp; done) | (simp; omega) | omega) _) | (refine Ext.trans ?_ (by assumption)))))) HC.out).mono ?_); rintro e w1 ⟨rfl, hx⟩; have hz := hx.size; (try simp at hz); (try (have hq0 : w.heap.size < w1.heap.size := by omega)); (try (have hc0 : ∀ o, w1.cell? ⟨w.heap.size, o, none⟩ = _ := fun o => hx.cells.1 _ o (by first | (simp; done) | (simp; omega) | omega))); (try (have hf0 : ∀ o, w1.frozen? ⟨w.heap.size, o, none⟩ = _ := fun o => hx.cells.2 _ o (by first | (simp; done) | (simp; omega) | omega))); (try (have hq1 : w.heap.size + 1 < w1.heap.size := by omega)); (try (have hc1 : ∀ o, w1.cell? ⟨w.heap.size + 1, o, none⟩ = _ := fun o => hx.cells.1 _ o (by first | (simp; done) | (simp; omega) | omega))); (try (have hf1 : ∀ o, w1.frozen? ⟨w.heap.size + 1, o, none⟩ = _ := fun o => hx.cells.2 _ o (by first | (simp; done) | (simp; omega) | omega))); (try (have hq2 : w.heap.size + 2 < w1.heap.size := by omega)); (try (have hc2 : ∀ o, w1.cell? ⟨w.heap.size + 2, o, none⟩ = _ := fun o => hx.cells.1 _ o (by first | (simp; done) | (simp; omega) | omega))); (try (have hf2 : ∀ o, w1.frozen? ⟨w.heap.size + 2, o, none⟩ = _ := fun o => hx.cells.2 _ o (by first | (simp; done) | (simp; omega) | omega)))) | (go_at_call 29; (with_reducible refine (handCount_any _ _ _ os _ (hJ.ext (by with_reducible (repeat (first | exact Ext.refl _ | apply Ext.drewN | apply Ext.drew | apply Ext.alloc | (refine Ext.set ?_ (by first | (simp; done) | (simp; omega) | omega) _) | (refine Ext.trans ?_ (by assumption)))))) HOB.out (by omega)).mono ?_); rw [HH.out]; rintro e w' ⟨rfl, rfl⟩))
  have hxw : Ext w w1 := hx
  go_loopw [12, 5] (fun i _ wr => ∃ k : Nat, k ≤ H ∧ i = .int .i64 k ∧ Ext w wr ∧ ∀ h : Nat, h < k → trn (V 0) (V h) = true) (fun i _ _ => H - (intOf i).toNat)
  case atStart => exact ⟨0, by omega, rfl, hxw, fun h hh => absurd hh (by omega)⟩
  case round =>
    obtain ⟨k, hk, rfl, hx0, hall⟩ := hrel
    have HA := Lib.hid hall
    clear hall
    by_cases hlt : k < H
    · have hlk := HLE.out k
      have HBK := Lib.hid (HBB.out k)
      cases ht : trn (V 0) (V k)
      · have HR : Hid (amb ps os = false) := HAN.out k hlt ht
        go_wp2_with fail
        (with_reducible refine (throwsOf_any _ _ n _ m _ ps os 0 _ (hI.ext hx0) (hJ.ext hx0) HV.out HO.out).mono ?_)
        rw [HVE.out 0]
        rintro e w2 ⟨A1, c1, rfl, ho⟩
        have hJ2 := ho.row.ints (by omega) (fun y hy => by have := HBB.out 0 y hy; omega)
        rw [Nat.mul_one] at hJ2
        have hx2 : Ext w w2 := hx0.trans ho.ext
        obtain ⟨b, off, hA, _, _⟩ := hJ2.at_ (by omega)
        have hcap : (V 0).length ≤ c1 := own_cap ho.own hp0
        subst hA
        go_wp2_with fail
        (with_reducible refine (throwsOf_any _ _ n _ m _ ps os k _ (hI.ext hx2) (hJ.ext hx2) HV.out HO.out).mono ?_)
        rw [HVE.out k]
        rintro e w3 ⟨A3, c3, rfl, ho3⟩
        have hJ3 := ho3.row.ints (by omega) (fun y hy => by have := HBK.out y hy; omega)
        rw [Nat.mul_one] at hJ3
        go_wp2_with fail
        (with_reducible refine (isTurned_any _ _ _ _ _ _ _ (V 0) (V k) _ (hJ2.ext ho3.ext) hJ3 (by omega) (by omega) hcap).mono ?_)
        rw [ht]
        rintro e w4 ⟨rfl, hx4⟩
        have hx9 : Ext w w4 := hx2.trans (ho3.ext.trans hx4)
        go_wp2
        go_ret
        exact ⟨ret_bool HR.out.symm, hx9⟩
      · have HA2 : Hid (∀ h : Nat, h < k + 1 → trn (V 0) (V h) = true) := fun h hh => by
          by_cases e : h = k
          · rw [e]; exact ht
          · exact HA.out h (by omega)
        go_wp2_with fail
        (with_reducible refine (throwsOf_any _ _ n _ m _ ps os 0 _ (hI.ext hx0) (hJ.ext hx0) HV.out HO.out).mono ?_)
        rw [HVE.out 0]
        rintro e w2 ⟨A1, c1, rfl, ho⟩
        have hJ2 := ho.row.ints (by omega) (fun y hy => by have := HBB.out 0 y hy; omega)
        rw [Nat.mul_one] at hJ2
        have hx2 : Ext w w2 := hx0.trans ho.ext
        obtain ⟨b, off, hA, _, _⟩ := hJ2.at_ (by omega)
        have hcap : (V 0).length ≤ c1 := own_cap ho.own hp0
        subst hA
        go_wp2_with fail
        (with_reducible refine (throwsOf_any _ _ n _ m _ ps os k _ (hI.ext hx2) (hJ.ext hx2) HV.out HO.out).mono ?_)
        rw [HVE.out k]
        rintro e w3 ⟨A3, c3, rfl, ho3⟩
        have hJ3 := ho3.row.ints (by omega) (fun y hy => by have := HBK.out y hy; omega)
        rw [Nat.mul_one] at hJ3
        go_wp2_with fail
        (with_reducible refine (isTurned_any _ _ _ _ _ _ _ (V 0) (V k) _ (hJ2.ext ho3.ext) hJ3 (by omega) (by omega) hcap).mono ?_)
        rw [ht]
        rintro e w4 ⟨rfl, hx4⟩
        have hx9 : Ext w w4 := hx2.trans (ho3.ext.trans hx4)
        go_wp2
        go_roundw
        case rel => exact ⟨k + 1, by omega, by go_num, hx9, HA2.out⟩
        case measure => simp [intOf]; omega
    · have HR : Hid (amb ps os = true) := HAY.out (fun h hh => HA.out h (by omega))
      go_wp2
      go_ret
      exact ⟨ret_bool HR.out.symm, hx0⟩
theorem implIsAmbidextrous_ret (A : Option Addr) (n c : Nat) (ps : List Int) (B : Option Addr) (m d : Nat) (os : List Int) (w : World) (hI : Ints w A n ps) (hJ : Ints w B m os) :
    Calls Try.prog 25 #[.slice A n c, .slice B m d] w fun e w' => e = .returned (.bool (amb ps os)) ∧ Ext w w' := by
  by_cases hr : hcd ps os = 0
  · exact implIsAmbidextrous_yes A n c ps B m d os w hI hJ hr
  · have h0 : (vpat ps && vhd os) = false := by unfold hcd at hr; cases hb : (vpat ps && vhd os) <;> simp_all
    have HR : Hid (amb ps os = false) := amb_bad h0
    have HC : Hid (¬ hcd ps os = 0) := hr
    clear hr h0
    go_enter Try.func25, Try.ntmps25
    go_wp2_with (first | (go_at_call 28; (with_reducible refine (areHanded_no _ _ _ _ _ _ ps os _ (hI.ext (by with_reducible (repeat (first | exact Ext.refl _ | apply Ext.drewN | apply Ext.drew | apply Ext.alloc | (refine Ext.set ?_ (by first | (simp; done) | (simp; omega) | omega) _) | (refine Ext.trans ?_ (by assumption)))))) (hJ.ext (by with_reducible (repeat (first | exact Ext.refl _ | apply Ext.drewN | apply Ext.drew | apply Ext.alloc | (refine Ext.set ?_ (by first | (simp; done) | (simp; omega) | omega) _) | (refine Ext.trans ?_ (by assumption)))))) HC.out).mono ?_); rintro e w1 ⟨rfl, hx⟩; have hz := hx.size; (try simp at hz); (try (have hq0 : w.heap.size < w1.heap.size := by omega)); (try (have hc0 : ∀ o, w1.cell? ⟨w.heap.size, o, none⟩ = _ := fun o => hx.cells.1 _ o (by first | (simp; done) | (simp; omega) | omega))); (try (have hf0 : ∀ o, w1.frozen? ⟨w.heap.size, o, none⟩ = _ := fun o => hx.cells.2 _ o (by first | (simp; done) | (simp; omega) | omega))); (try (have hq1 : w.heap.size + 1 < w1.heap.size := by omega)); (try (have hc1 : ∀ o, w1.cell? ⟨w.heap.size + 1, o, none⟩ = _ := fun o => hx.cells.1 _ o (by first | (simp; done) | (simp; omega) | omega))); (try (have hf1 : ∀ o, w1.frozen? ⟨w.heap.size + 1, o, none⟩ = _ := fun o => hx.cells.2 _ o (by first | (simp; done) | (simp; omega) | omega))); (try (have hq2 : w.heap.size + 2 < w1.heap.size := by omega)); (try (have hc2 : ∀ o, w1.cell? ⟨w.heap.size + 2, o, none⟩ = _ := fun o => hx.cells.1 _ o (by first | (simp; done) | (simp; omega) | omega))); (try (have hf2 : ∀ o, w1.frozen? ⟨w.heap.size + 2, o, none⟩ = _ := fun o => hx.cells.2 _ o (by first | (simp; done) | (simp; omega) | omega)))))
    go_ret
    exact ⟨ret_bool HR.out.symm, (by with_reducible (repeat (first | exact Ext.refl _ | apply Ext.drewN | apply Ext.drew | apply Ext.alloc | (refine Ext.set ?_ (by first | (simp; done) | (simp; omega) | omega) _) | (refine Ext.trans ?_ (by assumption)))))⟩
end Go.Proofs.Ytdmjmnkcnohhlaa
