/- The longest rests of the hands: contracts of RestsOf. No condition but the stated bounds. -/
import Derived.Test.YtdmjmnkcnohhlaaLds
namespace Go.Proofs.Ytdmjmnkcnohhlaa
set_option linter.unusedVariables false
set_option linter.unusedSimpArgs false
open Go.RowKit

/-- The beats at which the hand h throws, out of the first k throws. -/
def bts (ys : List Int) (h : Int) : Nat → List Int
  | 0 => []
  | k + 1 => bts ys h k ++ if ys[k * 4 + 2]?.getD 0 = h then [ys[k * 4]?.getD 0] else []
theorem bts_yes {ys : List Int} {h : Int} {k : Nat} (e : ys[k * 4 + 2]?.getD 0 = h) : bts ys h (k + 1) = bts ys h k ++ [ys[k * 4]?.getD 0] ∧ (bts ys h (k + 1)).length = (bts ys h k).length + 1 := by
  have : bts ys h (k + 1) = bts ys h k ++ [ys[k * 4]?.getD 0] := by simp only [bts]; rw [if_pos e]
  exact ⟨this, by rw [this]; simp⟩
theorem bts_no {ys : List Int} {h : Int} {k : Nat} (e : ¬ ys[k * 4 + 2]?.getD 0 = h) : bts ys h (k + 1) = bts ys h k ∧ (bts ys h (k + 1)).length = (bts ys h k).length := by
  have : bts ys h (k + 1) = bts ys h k := by simp only [bts]; rw [if_neg e, List.append_nil]
  exact ⟨this, by rw [this]⟩
theorem bts_len (ys : List Int) (h : Int) (k : Nat) : (bts ys h k).length ≤ k := by
  induction k with
  | zero => exact Nat.le_refl _
  | succ k ih => simp only [bts, List.length_append]; split <;> simp <;> omega
theorem bts_bd {ys : List Int} {M : Int} (hM : 0 ≤ M) (hb : ∀ y ∈ ys, 0 ≤ y ∧ y ≤ M) (h : Int) (k : Nat) : ∀ y ∈ bts ys h k, 0 ≤ y ∧ y ≤ M := by
  induction k with
  | zero => intro y hy; cases hy
  | succ k ih =>
    intro y hy
    simp only [bts, List.mem_append] at hy
    rcases hy with hy | hy
    · exact ih y hy
    · split at hy
      · simp at hy
        subst hy
        rcases Nat.lt_or_ge (k * 4) ys.length with h1 | h1
        · rw [List.getElem?_eq_getElem h1]
          exact hb _ (List.getElem_mem h1)
        · rw [List.getElem?_eq_none h1]
          simp
          omega
      · cases hy
/-- The beat of the next throw. -/
def nxt (bs : List Int) (L : Int) (i : Nat) : Int := if i + 1 < bs.length then bs[i + 1]?.getD 0 else bs[(0 : Nat)]?.getD (0 : Int) + L
/-- The longest rest among the first j. -/
def rstf (bs : List Int) (L : Int) : Nat → Int
  | 0 => 0
  | j + 1 => cmf (rstf bs L j) (nxt bs L j - bs[j]?.getD 0)
theorem getD_bd {ys : List Int} {M : Int} (hM : 0 ≤ M) (hb : ∀ y ∈ ys, 0 ≤ y ∧ y ≤ M) (i : Nat) : 0 ≤ ys[i]?.getD 0 ∧ ys[i]?.getD 0 ≤ M := by
  rcases Nat.lt_or_ge i ys.length with h1 | h1
  · rw [List.getElem?_eq_getElem h1]
    exact hb _ (List.getElem_mem h1)
  · rw [List.getElem?_eq_none h1]
    simp
    omega
theorem nxt_bd {bs : List Int} {L M : Int} (hM : 0 ≤ M) (hL : 0 ≤ L ∧ L ≤ M) (hb : ∀ y ∈ bs, 0 ≤ y ∧ y ≤ M) (i : Nat) : 0 ≤ nxt bs L i ∧ nxt bs L i ≤ 2 * M := by
  unfold nxt
  have h1 := getD_bd hM hb (i + 1)
  have h2 := getD_bd hM hb 0
  split <;> omega
theorem rstf_bd {bs : List Int} {L M : Int} (hM : 0 ≤ M) (hL : 0 ≤ L ∧ L ≤ M) (hb : ∀ y ∈ bs, 0 ≤ y ∧ y ≤ M) (j : Nat) : -M ≤ rstf bs L j ∧ rstf bs L j ≤ 2 * M := by
  induction j with
  | zero => simp [rstf]; omega
  | succ j ih =>
    simp only [rstf]
    have h1 := nxt_bd hM hL hb j
    have h2 := getD_bd hM hb j
    exact cmf_bd ih (by omega)
def rst (bs : List Int) (L : Int) : Int := rstf bs L bs.length
/-- The rests of the first j hands. -/
def rsl (ys : List Int) (N : Nat) (L : Int) (j : Nat) : List Int := (List.range j).map (fun h : Nat => rst (bts ys h N) L)
theorem rsl_succ (ys : List Int) (N : Nat) (L : Int) (j : Nat) : rsl ys N L (j + 1) = rsl ys N L j ++ [rst (bts ys j N) L] := by simp [rsl, List.range_succ]
/-- What RestsOf gives. -/
def rsv (ps os : List Int) : List Int := if hcd ps os = 0 then rsl (htr ps os (cmp_ ps.length os.length)) (tcn ps (cmp_ ps.length os.length)) (cmp_ ps.length os.length : Nat) (hct os).toNat else []
theorem rsv_bd (ps os : List Int) : ldn ps os ≤ 1048576 ∧ ∀ y ∈ rsv ps os, -9223372036854775808 ≤ y ∧ y ≤ 9223372036854775807 := by
  refine ⟨(ldv_bd ps os).1, ?_⟩
  unfold rsv
  split
  · rename_i hr
    obtain ⟨hv, ho⟩ := hcd_zero hr
    have hc := cmp_bd (thr_iff.1 (vpat_thr hv)).2 (vhd_iff ho).1
    intro y hy
    simp only [rsl, List.mem_map, List.mem_range] at hy
    obtain ⟨h, hh, rfl⟩ := hy
    have h1 := bts_bd (M := 159) (by omega) (fun y hy => by have := htr_bd hv ho _ y hy; omega) (h : Int) (tcn ps (cmp_ ps.length os.length)) (ys := htr ps os (cmp_ ps.length os.length))
    have := rstf_bd (L := ((cmp_ ps.length os.length : Nat) : Int)) (M := 159) (by omega) (by omega) h1 (bts (htr ps os (cmp_ ps.length os.length)) (h : Int) (tcn ps (cmp_ ps.length os.length))).length
    unfold rst
    omega
  · simp
set_option maxHeartbeats 2000000 in
set_option maxRecDepth 100000 in
theorem l14Rest_any (A : Option Addr) (N c : Nat) (ys : List Int) (h L : Int) (w : World) (hI : Ints w A (N * 4) ys) (hN : N ≤ 1000) (hb : ∀ y ∈ ys, 0 ≤ y ∧ y ≤ 159) (hL : 0 ≤ L ∧ L ≤ 159) :
    Calls Try.prog 35 #[.slice A N c, .int .i64 h, .int .i64 L] w fun e w' => e = .returned (.int .i64 (rst (bts ys h N) L)) ∧ Ext w w' := by
  have HB := Lib.hid hb
  clear hb
  go_enter Try.func35, Try.ntmps35
  go_wp2
  go_loopw [7, 8] (fun v i wr => ∃ k : Nat, k ≤ N ∧ i = .int .i64 k ∧ OwnR 2 1 w wr v (bts ys h k).length (bts ys h k)) (fun _ i _ => N - (intOf i).toNat)
  case atStart => exact ⟨0, Nat.zero_le _, rfl, ownR_empty (Ext.refl _) _ _⟩
  case round =>
    obtain ⟨k, hk, rfl, hown⟩ := hrel
    have hxr := hown.ext
    have hbl := bts_len ys h k
    by_cases hlt : k < N
    · obtain ⟨b, off, hA, hb2, hcell⟩ := (hI.ext hxr).at_ (by omega)
      subst hA
      have ik : (k : Int) < N := by omega
      have hc0 := hcell (k * 4) (by omega)
      have hc2 := hcell (k * 4 + 2) (by omega)
      rw [← Nat.add_assoc] at hc2
      clear hcell
      by_cases h0 : ys[k * 4 + 2]?.getD 0 = h
      · obtain ⟨hs, hn⟩ := bts_yes h0
        have HS := Lib.hid hs
        have HN := Lib.hid hn
        have heq : (ys[k * 4 + 2]?.getD 0 == h) = true := by simpa using h0
        clear hs hn
        generalize ys[k * 4 + 2]?.getD 0 = u at *
        subst h0
        go_wp2_with (at_builtin; refine appM elInt (by omega) rfl _ _ Try.underlying24 rfl rfl (hown.trans (by with_reducible (repeat (first | exact Ext.refl _ | apply Ext.drewN | apply Ext.drew | apply Ext.alloc | (refine Ext.set ?_ (by first | (simp; done) | (simp; omega) | omega) _) | (refine Ext.trans ?_ (by assumption)))))) (by omega) rfl (by first | exact heap_alloc_new _ _ | exact heap_alloc_set _ _ _ _ | exact heap_alloc_two _ _ _) (ys := [ys[k * 4]?.getD 0]) (by rfl) (by rfl) ?_; intro v' w3 hown')
        go_roundw
        case rel => exact ⟨k + 1, by omega, by go_num, by rw [HN.out, HS.out]; exact hown'⟩
        case measure => simp [intOf]; omega
      · obtain ⟨hs, hn⟩ := bts_no h0
        have HS := Lib.hid hs
        have heq : (ys[k * 4 + 2]?.getD 0 == h) = false := by simpa using h0
        clear hs hn h0
        generalize ys[k * 4 + 2]?.getD 0 = u at *
        go_wp2
        go_roundw
        case rel => exact ⟨k + 1, by omega, by go_num, by rw [HS.out]; exact hown⟩
        case measure => simp [intOf]; omega
    · obtain rfl : k = N := by omega
      have HBB := Lib.hid (bts_bd (M := 159) (by omega) HB.out h k)
      obtain ⟨A2, c2, rfl⟩ := hown.forms
      have hJ := hown.row.ints (by omega) (fun y hy => by have := HBB.out y hy; omega)
      rw [Nat.mul_one] at hJ
      obtain ⟨bs, hbs⟩ : ∃ bs, bts ys h k = bs := ⟨_, rfl⟩
      have HR : Hid (rstf bs L bs.length = rst (bts ys h k) L) := by show _ = _; rw [hbs]; rfl
      rw [hbs] at hJ hbl HBB ⊢
      obtain ⟨n, hn⟩ : ∃ n, bs.length = n := ⟨_, rfl⟩
      rw [hn] at hJ hbl HR ⊢
      have HNL := Lib.hid hn
      clear hn hbs hown
      go_wp2
      go_loop [9, 10, 11] (fun s i _ => ∃ j : Nat, j ≤ n ∧ i = .int .i64 j ∧ s = .int .i64 (rstf bs L j)) (fun _ i _ => n - (intOf i).toNat)
      case atStart => exact ⟨0, Nat.zero_le _, rfl, rfl⟩
      case round =>
        obtain ⟨j, hj, rfl, rfl⟩ := hrel
        have hrb := rstf_bd (L := L) (M := 159) (by omega) hL HBB.out j
        by_cases hjl : j < n
        · obtain ⟨b, off, hA, hb2, hcell⟩ := hJ.at_ (by omega)
          subst hA
          have hji : (j : Int) < n := by omega
          have h00 := hcell 0 (by omega)
          rw [Nat.add_zero] at h00
          have h0j := hcell j hjl
          have hbj := getD_bd (M := 159) (by omega) HBB.out j
          have hb0 := getD_bd (M := 159) (by omega) HBB.out 0
          have hnp : (0 : Int) < n := by omega
          by_cases hl : j + 1 < n
          · have h1j := hcell (j + 1) hl
            have hb1 := getD_bd (M := 159) (by omega) HBB.out (j + 1)
            have hli : (j : Int) + 1 < n := by omega
            have HS : Hid (rstf bs L (j + 1) = cmf (rstf bs L j) (bs[j + 1]?.getD 0 - bs[j]?.getD 0)) := by show _ = _; simp only [rstf, nxt]; rw [HNL.out, if_pos hl]
            clear hcell
            go_wp2_with (first | (go_at_call 58; (with_reducible refine (l00Max_any _ _ _).mono ?_); rintro e w' ⟨rfl, rfl⟩))
            go_round
            case rel => exact ⟨j + 1, by omega, by go_num, by rw [HS.out]⟩
            case measure => simp [intOf]; omega
          · have hli : ¬ (j : Int) + 1 < n := by omega
            have HS : Hid (rstf bs L (j + 1) = cmf (rstf bs L j) ((bs[(0 : Nat)]?).getD (0 : Int) + L - bs[j]?.getD 0)) := by show _ = _; simp only [rstf, nxt]; rw [HNL.out, if_neg hl]
            clear hcell
            go_wp2_with (first | (go_at_call 58; (with_reducible refine (l00Max_any _ _ _).mono ?_); rintro e w' ⟨rfl, rfl⟩))
            go_round
            case rel => exact ⟨j + 1, by omega, by go_num, by rw [HS.out]⟩
            case measure => simp [intOf]; omega
        · obtain rfl : j = n := by omega
          go_wp2
          go_ret
          exact ⟨ret_int HR.out, hxr⟩
set_option maxHeartbeats 2000000 in
theorem specRestsOf_yes (A : Option Addr) (n c : Nat) (ps : List Int) (B : Option Addr) (m d : Nat) (os : List Int) (w : World) (hI : Ints w A n ps) (hJ : Ints w B m os) (hr : hcd ps os = 0) :
    Calls Try.prog 10 #[.slice A n c, .slice B m d] w (RetRow w 2 1 (hct os).toNat (rsl (htr ps os (cmp_ n m)) (tcn ps (cmp_ n m)) (cmp_ n m : Nat) (hct os).toNat) 0) := by
  obtain ⟨hv, ho⟩ := hcd_zero hr
  have hcb := cmp_bd (thr_iff.1 (vpat_thr hv)).2 (vhd_iff ho).1
  have hon := (thr_iff.1 (vpat_thr hv)).2
  have hom := (vhd_iff ho).1
  rw [hI.len] at hon
  rw [hJ.len] at hom
  rw [hI.len, hJ.len] at hcb
  have hHb := hct_bd ho
  obtain ⟨H, hH⟩ : ∃ H : Nat, hct os = H := ⟨(hct os).toNat, by omega⟩
  rw [show (hct os).toNat = H by omega]
  have HOB := Lib.hid (vhd_iff ho).2.1
  rw [hJ.len] at HOB
  have HH := Lib.hid hH
  have HC := Lib.hid hr
  have HV := Lib.hid hv
  have HO := Lib.hid ho
  have hBD : Hid (∀ y ∈ htr ps os (cmp_ n m), 0 ≤ y ∧ y ≤ 159) := fun y hy => by have := htr_bd hv ho _ y hy; omega
  have hN := tcn_le ps (cmp_ n m)
  have hH4 : 1 ≤ H ∧ H ≤ 4 := by omega
  clear hr hv ho hHb hH
  generalize hys : htr ps os (cmp_ n m) = ys at *
  generalize hNN : tcn ps (cmp_ n m) = N at *
  have HYS := Lib.hid hys
  have HNN := Lib.hid hNN
  clear hys hNN
  obtain ⟨L, hL⟩ : ∃ L, cmp_ n m = L := ⟨_, rfl⟩
  rw [hL] at hcb hN ⊢
  have HL := Lib.hid hL
  clear hL
  go_enter Try.func10, Try.ntmps10
  go_wp2_with (first | (go_at_call 31; (with_reducible refine (l14Code_is _ _ _ _ _ _ ps os _ (hI.ext (by with_reducible (repeat (first | exact Ext.refl _ | apply Ext.drewN | apply Ext.drew | apply Ext.alloc | (refine Ext.set ?_ (by first | (simp; done) | (simp; omega) | omega) _) | (refine Ext.trans ?_ (by assumption)))))) (hJ.ext (by with_reducible (repeat (first | exact Ext.refl _ | apply Ext.drewN | apply Ext.drew | apply Ext.alloc | (refine Ext.set ?_ (by first | (simp; done) | (simp; omega) | omega) _) | (refine Ext.trans ?_ (by assumption)))))) 0 HC).mono ?_); rintro e w1 ⟨rfl, hx⟩; have hz := hx.size; (try simp at hz); (try (have hq0 : w.heap.size < w1.heap.size := by omega)); (try (have hc0 : ∀ o, w1.cell? ⟨w.heap.size, o, none⟩ = _ := fun o => hx.cells.1 _ o (by first | (simp; done) | (simp; omega) | omega))); (try (have hf0 : ∀ o, w1.frozen? ⟨w.heap.size, o, none⟩ = _ := fun o => hx.cells.2 _ o (by first | (simp; done) | (simp; omega) | omega))); (try (have hq1 : w.heap.size + 1 < w1.heap.size := by omega)); (try (have hc1 : ∀ o, w1.cell? ⟨w.heap.size + 1, o, none⟩ = _ := fun o => hx.cells.1 _ o (by first | (simp; done) | (simp; omega) | omega))); (try (have hf1 : ∀ o, w1.frozen? ⟨w.heap.size + 1, o, none⟩ = _ := fun o => hx.cells.2 _ o (by first | (simp; done) | (simp; omega) | omega))); (try (have hq2 : w.heap.size + 2 < w1.heap.size := by omega)); (try (have hc2 : ∀ o, w1.cell? ⟨w.heap.size + 2, o, none⟩ = _ := fun o => hx.cells.1 _ o (by first | (simp; done) | (simp; omega) | omega))); (try (have hf2 : ∀ o, w1.frozen? ⟨w.heap.size + 2, o, none⟩ = _ := fun o => hx.cells.2 _ o (by first | (simp; done) | (simp; omega) | omega)))) | (go_at_call 33; (with_reducible refine (l14Throws_any _ _ n _ m _ ps os _ (hI.ext (by with_reducible (repeat (first | exact Ext.refl _ | apply Ext.drewN | apply Ext.drew | apply Ext.alloc | (refine Ext.set ?_ (by first | (simp; done) | (simp; omega) | omega) _) | (refine Ext.trans ?_ (by assumption)))))) (hJ.ext (by with_reducible (repeat (first | exact Ext.refl _ | apply Ext.drewN | apply Ext.drew | apply Ext.alloc | (refine Ext.set ?_ (by first | (simp; done) | (simp; omega) | omega) _) | (refine Ext.trans ?_ (by assumption)))))) HV.out HO.out).mono ?_); rw [HYS.out, HNN.out]; rintro e w2 ⟨A1, c1, rfl, ho⟩))
  have hJ2 := ho.row.ints (by omega) (fun y hy => by have := hBD.out y hy; omega)
  have hxw : Ext w w2 := Ext.trans (by with_reducible (repeat (first | exact Ext.refl _ | apply Ext.drewN | apply Ext.drew | apply Ext.alloc | (refine Ext.set ?_ (by first | (simp; done) | (simp; omega) | omega) _) | (refine Ext.trans ?_ (by assumption))))) ho.ext
  go_loopw [8, 9] (fun v i wr => ∃ k : Nat, k ≤ H ∧ i = .int .i64 k ∧ OwnR 2 1 w2 wr v k (rsl ys N L k)) (fun _ i _ => H - (intOf i).toNat)
  case atStart => exact ⟨0, Nat.zero_le _, rfl, ownR_empty (Ext.refl _) _ _⟩
  case round =>
    obtain ⟨k, hk, rfl, hown⟩ := hrel
    have hx2 := hown.ext
    have hx0 : Ext w wr := hxw.trans hx2
    by_cases hlt : k < H
    · have HS := rsl_succ ys N L k
      have HS := Lib.hid HS
      go_wp2_with (first | (go_at_call 32; (with_reducible refine (l14Count_any _ _ _ os _ (hJ.ext hx0) HOB.out (by omega) (by omega)).mono ?_); rw [HH.out]; rintro e w' ⟨rfl, rfl⟩) | (go_at_call 36; (with_reducible refine (l14Common_any _ _ n _ m _ _ hon hom).mono ?_); rw [HL.out]; rintro e w' ⟨rfl, rfl⟩) | (go_at_call 35; (with_reducible refine (l14Rest_any _ N _ ys _ _ _ (hJ2.ext hx2) (by omega) hBD.out (by omega)).mono ?_); rintro e w3 ⟨rfl, hx3⟩) | (at_builtin; refine appM elInt (by omega) rfl _ _ Try.underlying24 rfl rfl (hown.trans (hx3.alloc _)) (by omega) rfl (by first | exact heap_alloc_new _ _ | exact heap_alloc_set _ _ _ _ | exact heap_alloc_two _ _ _) (ys := [rst (bts ys k N) L]) (by rfl) (by rfl) ?_; intro v' w4 hown'))
      go_roundw
      case rel => exact ⟨k + 1, by omega, by go_num, by rw [HS.out]; exact hown'⟩
      case measure => simp [intOf]; omega
    · obtain rfl : k = H := by omega
      obtain ⟨A3, c3, rfl⟩ := hown.forms
      have HT : Hid (RetRow w 2 1 k (rsl ys N L k) 0 (.returned (.tuple #[.slice A3 k c3, .int .i64 0])) wr) := RetRow.of_ownR rfl (hown.rebase hxw)
      go_wp2_with (first | (go_at_call 32; (with_reducible refine (l14Count_any _ _ _ os _ (hJ.ext hx0) HOB.out (by omega) (by omega)).mono ?_); rw [HH.out]; rintro e w' ⟨rfl, rfl⟩))
      go_ret2
      exact HT.out
theorem specRestsOf_ret (A : Option Addr) (n c : Nat) (ps : List Int) (B : Option Addr) (m d : Nat) (os : List Int) (w : World) (hI : Ints w A n ps) (hJ : Ints w B m os) :
    Calls Try.prog 10 #[.slice A n c, .slice B m d] w (RetRow w 2 1 (ldn ps os) (rsv ps os) (hcd ps os)) := by
  unfold ldn rsv
  by_cases hr : hcd ps os = 0
  · rw [if_pos hr, if_pos hr, hr, hI.len, hJ.len]
    exact specRestsOf_yes A n c ps B m d os w hI hJ hr
  · rw [if_neg hr, if_neg hr]
    have h0 : (hcd ps os != 0) = true := by simpa using hr
    obtain ⟨r, hr⟩ : ∃ r, hcd ps os = r := ⟨_, rfl⟩
    rw [hr] at h0 ⊢
    have HC := Lib.hid hr
    clear hr
    go_enter Try.func10, Try.ntmps10
    go_wp2_with (first | (go_at_call 31; (with_reducible refine (l14Code_is _ _ _ _ _ _ ps os _ (hI.ext (by with_reducible (repeat (first | exact Ext.refl _ | apply Ext.drewN | apply Ext.drew | apply Ext.alloc | (refine Ext.set ?_ (by first | (simp; done) | (simp; omega) | omega) _) | (refine Ext.trans ?_ (by assumption)))))) (hJ.ext (by with_reducible (repeat (first | exact Ext.refl _ | apply Ext.drewN | apply Ext.drew | apply Ext.alloc | (refine Ext.set ?_ (by first | (simp; done) | (simp; omega) | omega) _) | (refine Ext.trans ?_ (by assumption)))))) r HC).mono ?_); rintro e w1 ⟨rfl, hx⟩; have hz := hx.size; (try simp at hz); (try (have hq0 : w.heap.size < w1.heap.size := by omega)); (try (have hc0 : ∀ o, w1.cell? ⟨w.heap.size, o, none⟩ = _ := fun o => hx.cells.1 _ o (by first | (simp; done) | (simp; omega) | omega))); (try (have hf0 : ∀ o, w1.frozen? ⟨w.heap.size, o, none⟩ = _ := fun o => hx.cells.2 _ o (by first | (simp; done) | (simp; omega) | omega))); (try (have hq1 : w.heap.size + 1 < w1.heap.size := by omega)); (try (have hc1 : ∀ o, w1.cell? ⟨w.heap.size + 1, o, none⟩ = _ := fun o => hx.cells.1 _ o (by first | (simp; done) | (simp; omega) | omega))); (try (have hf1 : ∀ o, w1.frozen? ⟨w.heap.size + 1, o, none⟩ = _ := fun o => hx.cells.2 _ o (by first | (simp; done) | (simp; omega) | omega))); (try (have hq2 : w.heap.size + 2 < w1.heap.size := by omega)); (try (have hc2 : ∀ o, w1.cell? ⟨w.heap.size + 2, o, none⟩ = _ := fun o => hx.cells.1 _ o (by first | (simp; done) | (simp; omega) | omega))); (try (have hf2 : ∀ o, w1.frozen? ⟨w.heap.size + 2, o, none⟩ = _ := fun o => hx.cells.2 _ o (by first | (simp; done) | (simp; omega) | omega)))))
    go_ret2
    exact RetRow.of_nil rfl (by with_reducible (repeat (first | exact Ext.refl _ | apply Ext.drewN | apply Ext.drew | apply Ext.alloc | (refine Ext.set ?_ (by first | (simp; done) | (simp; omega) | omega) _) | (refine Ext.trans ?_ (by assumption)))))
set_option maxHeartbeats 4000000 in
set_option maxRecDepth 100000 in
theorem implRestsOf_yes (A : Option Addr) (n c : Nat) (ps : List Int) (B : Option Addr) (m d : Nat) (os : List Int) (w : World) (hI : Ints w A n ps) (hJ : Ints w B m os) (hr : hcd ps os = 0) :
    Calls Try.prog 9 #[.slice A n c, .slice B m d] w (RetRow w 2 1 (hct os).toNat (rsl (htr ps os (cmp_ n m)) (tcn ps (cmp_ n m)) (cmp_ n m : Nat) (hct os).toNat) 0) := by
  obtain ⟨hv, ho⟩ := hcd_zero hr
  have hcb := cmp_bd (thr_iff.1 (vpat_thr hv)).2 (vhd_iff ho).1
  have hon := (thr_iff.1 (vpat_thr hv)).2
  have hom := (vhd_iff ho).1
  rw [hI.len] at hon
  rw [hJ.len] at hom
  rw [hI.len, hJ.len] at hcb
  have hHb := hct_bd ho
  obtain ⟨H, hH⟩ : ∃ H : Nat, hct os = H := ⟨(hct os).toNat, by omega⟩
  rw [show (hct os).toNat = H by omega]
  have HOB := Lib.hid (vhd_iff ho).2.1
  rw [hJ.len] at HOB
  have HH := Lib.hid hH
  have HC := Lib.hid hr
  have HV := Lib.hid hv
  have HO := Lib.hid ho
  have hBD : Hid (∀ y ∈ htr ps os (cmp_ n m), 0 ≤ y ∧ y ≤ 159) := fun y hy => by have := htr_bd hv ho _ y hy; omega
  have hN := tcn_le ps (cmp_ n m)
  have hH4 : 1 ≤ H ∧ H ≤ 4 := by omega
  clear hr hv ho hHb hH
  generalize hys : htr ps os (cmp_ n m) = ys at *
  generalize hNN : tcn ps (cmp_ n m) = N at *
  have HYS := Lib.hid hys
  have HNN := Lib.hid hNN
  clear hys hNN
  obtain ⟨L, hL⟩ : ∃ L, cmp_ n m = L := ⟨_, rfl⟩
  rw [hL] at hcb hN ⊢
  have HL := Lib.hid hL
  clear hL
  go_enter Try.func9, Try.ntmps9
  go_wp2_with (first | (go_at_call 28; (with_reducible refine (areHanded_yes _ _ _ _ _ _ ps os _ (hI.ext (by with_reducible (repeat (first | exact Ext.refl _ | apply Ext.drewN | apply Ext.drew | apply Ext.alloc | (refine Ext.set ?_ (by first | (simp; done) | (simp; omega) | omega) _) | (refine Ext.trans ?_ (by assumption)))))) (hJ.ext (by with_reducible (repeat (first | exact Ext.refl _ | apply Ext.drewN | apply Ext.drew | apply Ext.alloc | (refine Ext.set ?_ (by first | (simp; done) | (simp; omega) | omega) _) | (refine Ext.trans ?_ (by assumption)))))) HC.out).mono ?_); rintro e w1 ⟨rfl, hx⟩; have hz := hx.size; (try simp at hz); (try (have hq0 : w.heap.size < w1.heap.size := by omega)); (try (have hc0 : ∀ o, w1.cell? ⟨w.heap.size, o, none⟩ = _ := fun o => hx.cells.1 _ o (by first | (simp; done) | (simp; omega) | omega))); (try (have hf0 : ∀ o, w1.frozen? ⟨w.heap.size, o, none⟩ = _ := fun o => hx.cells.2 _ o (by first | (simp; done) | (simp; omega) | omega))); (try (have hq1 : w.heap.size + 1 < w1.heap.size := by omega)); (try (have hc1 : ∀ o, w1.cell? ⟨w.heap.size + 1, o, none⟩ = _ := fun o => hx.cells.1 _ o (by first | (simp; done) | (simp; omega) | omega))); (try (have hf1 : ∀ o, w1.frozen? ⟨w.heap.size + 1, o, none⟩ = _ := fun o => hx.cells.2 _ o (by first | (simp; done) | (simp; omega) | omega))); (try (have hq2 : w.heap.size + 2 < w1.heap.size := by omega)); (try (have hc2 : ∀ o, w1.cell? ⟨w.heap.size + 2, o, none⟩ = _ := fun o => hx.cells.1 _ o (by first | (simp; done) | (simp; omega) | omega))); (try (have hf2 : ∀ o, w1.frozen? ⟨w.heap.size + 2, o, none⟩ = _ := fun o => hx.cells.2 _ o (by first | (simp; done) | (simp; omega) | omega)))) | (go_at_call 29; (with_reducible refine (handCount_any _ _ _ os _ (hJ.ext (by with_reducible (repeat (first | exact Ext.refl _ | apply Ext.drewN | apply Ext.drew | apply Ext.alloc | (refine Ext.set ?_ (by first | (simp; done) | (simp; omega) | omega) _) | (refine Ext.trans ?_ (by assumption)))))) HOB.out (by omega)).mono ?_); rw [HH.out]; rintro e w' ⟨rfl, rfl⟩))
  have hxw : Ext w w1 := (by with_reducible (repeat (first | exact Ext.refl _ | apply Ext.drewN | apply Ext.drew | apply Ext.alloc | (refine Ext.set ?_ (by first | (simp; done) | (simp; omega) | omega) _) | (refine Ext.trans ?_ (by assumption)))))
  go_loopw [6, 22, 7, 8, 10, 11, 12, 13, 14] (fun v i _ _ _ _ _ _ _ wr => ∃ k : Nat, k ≤ H ∧ i = .int .i64 k ∧ OwnR 2 1 w1 wr v k (rsl ys N L k)) (fun _ i _ _ _ _ _ _ _ _ => H - (intOf i).toNat)
  case atStart => exact ⟨0, Nat.zero_le _, rfl, ownR_empty (Ext.refl _) _ _⟩
  case round =>
    revert wr
    intro wo hrel
    obtain ⟨k, hk, rfl, hown⟩ := hrel
    have hx2 := hown.ext
    have hx0 : Ext w wo := hxw.trans hx2
    by_cases hlt : k < H
    · have HS := rsl_succ ys N L k
      have HS := Lib.hid HS
      go_wp2_with (first | (go_at_call 30; (with_reducible refine (handThrows_any _ _ n _ m _ ps os _ (hI.ext (by with_reducible (repeat (first | exact Ext.refl _ | apply Ext.drewN | apply Ext.drew | apply Ext.alloc | (refine Ext.set ?_ (by first | (simp; done) | (simp; omega) | omega) _) | (refine Ext.trans ?_ (by assumption)))))) (hJ.ext (by with_reducible (repeat (first | exact Ext.refl _ | apply Ext.drewN | apply Ext.drew | apply Ext.alloc | (refine Ext.set ?_ (by first | (simp; done) | (simp; omega) | omega) _) | (refine Ext.trans ?_ (by assumption)))))) HV.out HO.out).mono ?_); rw [HYS.out, HNN.out]; rintro e w2 ⟨A1, c1, rfl, ho⟩))
      have hrow0 := ho.row
      have hs12 := ho.ext.size
      have hE0 : OwnR 2 1 wo w2 (.slice (some ⟨wo.heap.size, 0, none⟩) 0 0) 0 [] := (ownR_empty (Ext.refl wo) _ _).trans ho.ext
      simp at hrow0 hs12
      go_loopw [8, 30, 10] (fun bv q _ wr => ∃ j : Nat, j ≤ N ∧ q = .int .i64 j ∧ OwnR 2 1 wo wr bv (bts ys k j).length (bts ys k j) ∧ Apart (wo.heap.size + 1) w2.heap.size bv ∧ Row wr (wo.heap.size + 1) w2.heap.size 38 4 A1 N c1 ys ∧ w2.heap.size ≤ wr.heap.size) (fun _ q _ _ => N - (intOf q).toNat)
      case atStart => exact ⟨0, Nat.zero_le _, rfl, hE0, Apart.of_lt (by omega) _ _, hrow0, Nat.le_refl _⟩
      case round =>
        revert wr
        intro wq hrel
        obtain ⟨j, hj, rfl, hbo, hap, hrow, hhi⟩ := hrel
        have hbl := bts_len ys k j
        have hxq := hbo.ext
        by_cases hjl : j < N
        · have hJ2 := hrow.ints (by omega) (fun y hy => by have := hBD.out y hy; omega)
          obtain ⟨b, off, hA, hb2, hcell⟩ := hJ2.at_ (by omega)
          subst hA
          have ij : (j : Int) < N := by omega
          have hc0 := hcell (j * 4) (by omega)
          have hc1 := hcell (j * 4 + 1) (by omega)
          have hc2 := hcell (j * 4 + 2) (by omega)
          have hc3 := hcell (j * 4 + 3) (by omega)
          rw [← Nat.add_assoc] at hc1 hc2 hc3
          clear hcell
          by_cases h0 : ys[j * 4 + 2]?.getD 0 = k
          · obtain ⟨hs, hn⟩ := bts_yes h0
            have HS2 := Lib.hid hs
            have HN2 := Lib.hid hn
            have heq : (ys[j * 4 + 2]?.getD 0 == (k : Int)) = true := by simpa using h0
            clear hs hn
            rw [h0] at hc2 heq
            clear h0
            go_wp2_with (at_builtin; refine appB elInt (by omega) rfl _ _ Try.underlying24 rfl rfl (hbo.trans (by with_reducible (repeat (first | exact Ext.refl _ | apply Ext.drewN | apply Ext.drew | apply Ext.alloc | (refine Ext.set ?_ (by first | (simp; done) | (simp; omega) | omega) _) | (refine Ext.trans ?_ (by assumption)))))) hap (by simp; omega) (by omega) rfl (by first | exact heap_alloc_new _ _ | exact heap_alloc_set _ _ _ _ | exact heap_alloc_two _ _ _) (ys := [ys[j * 4]?.getD 0]) (by rfl) (by rfl) ?_; intro v' w3 hbo' hap' hg')
            go_roundw
            case rel => exact ⟨j + 1, by omega, by go_num, by rw [HN2.out, HS2.out]; exact hbo', hap', hrow.stays (by with_reducible (repeat (first | exact Ext.refl _ | apply Ext.drewN | apply Ext.drew | apply Ext.alloc | (refine Ext.set ?_ (by first | (simp; done) | (simp; omega) | omega) _) | (refine Ext.trans ?_ (by assumption))))) hg' hap, Nat.le_trans hhi (by have := hg'.size; simp at this; omega)⟩
            case measure => simp [intOf]; omega
          · obtain ⟨hs, hn⟩ := bts_no h0
            have HS2 := Lib.hid hs
            have heq : (ys[j * 4 + 2]?.getD 0 == (k : Int)) = false := by simpa using h0
            clear hs hn h0
            generalize ys[j * 4 + 2]?.getD 0 = u at *
            go_wp2
            go_roundw
            case rel => exact ⟨j + 1, by omega, by go_num, by rw [HS2.out]; exact hbo.trans (by with_reducible (repeat (first | exact Ext.refl _ | apply Ext.drewN | apply Ext.drew | apply Ext.alloc | (refine Ext.set ?_ (by first | (simp; done) | (simp; omega) | omega) _) | (refine Ext.trans ?_ (by assumption))))), hap, hrow.ext (by with_reducible (repeat (first | exact Ext.refl _ | apply Ext.drewN | apply Ext.drew | apply Ext.alloc | (refine Ext.set ?_ (by first | (simp; done) | (simp; omega) | omega) _) | (refine Ext.trans ?_ (by assumption))))), by simp; omega⟩
            case measure => simp [intOf]; omega
        · obtain rfl : j = N := by omega
          have HBB := Lib.hid (bts_bd (M := 159) (by omega) hBD.out (k : Int) j)
          obtain ⟨A2, c2, rfl⟩ := hbo.forms
          have hJ := hbo.row.ints (by omega) (fun y hy => by have := HBB.out y hy; omega)
          rw [Nat.mul_one] at hJ
          obtain ⟨bs, hbs⟩ : ∃ bs, bts ys k j = bs := ⟨_, rfl⟩
          have HR : Hid (rstf bs L bs.length = rst (bts ys k j) L) := by show _ = _; rw [hbs]; rfl
          rw [hbs] at hJ hbl HBB ⊢
          obtain ⟨n', hn⟩ : ∃ n', bs.length = n' := ⟨_, rfl⟩
          rw [hn] at hJ hbl HR ⊢
          have HNL := Lib.hid hn
          clear hn hbs hbo hap hrow
          go_wp2
          go_loopw [11, 46, 12, 13, 14] (fun s q _ _ _ wr => ∃ z : Nat, z ≤ n' ∧ q = .int .i64 z ∧ s = .int .i64 (rstf bs L z) ∧ Ext wq wr) (fun _ q _ _ _ _ => n' - (intOf q).toNat)
          case atStart => exact ⟨0, Nat.zero_le _, rfl, rfl, Ext.refl _⟩
          case round =>
            revert wr
            intro wz hrel
            obtain ⟨z, hz, rfl, rfl, hxz⟩ := hrel
            have hrb := rstf_bd (L := L) (M := 159) (by omega) (by omega) HBB.out z
            by_cases hzl : z < n'
            · obtain ⟨b, off, hA, hb2, hcell⟩ := hJ.at_ (by omega)
              subst hA
              have hzi : (z : Int) < n' := by omega
              have h00 := hcell 0 (by omega)
              rw [Nat.add_zero] at h00
              have h0z := hcell z hzl
              have hbz := getD_bd (M := 159) (by omega) HBB.out z
              have hb0 := getD_bd (M := 159) (by omega) HBB.out 0
              have hnp : (0 : Int) < n' := by omega
              have e0 : IntKind.i64.wrap ((bs[(0 : Nat)]?).getD (0 : Int) + (L : Int)) = (bs[(0 : Nat)]?).getD (0 : Int) + (L : Int) := IntWalk.i64_in _ (by omega)
              have g00 := hxz.cell hb2 h00
              have g0z := hxz.cell hb2 h0z
              have hx9 : Ext w wz := hx0.trans (hxq.trans hxz)
              have hb3 : b < wz.heap.size := Nat.lt_of_lt_of_le hb2 hxz.size
              have hnp2 : 0 < n' := by omega
              have HX5 : Hid (∀ w5, Ext wz.drew w5 → Ext wq w5) := fun w5 h => hxz.trans ((Ext.refl wz).drew.trans h)
              by_cases hl : z + 1 < n'
              · have h1z := hcell (z + 1) hl
                have g1z := hxz.cell hb2 h1z
                have hb1 := getD_bd (M := 159) (by omega) HBB.out (z + 1)
                have hli : (z : Int) + 1 < n' := by omega
                have HS3 : Hid (rstf bs L (z + 1) = cmf (rstf bs L z) (bs[z + 1]?.getD 0 - bs[z]?.getD 0)) := by show _ = _; simp only [rstf, nxt]; rw [HNL.out, if_pos hl]
                clear hcell
                by_cases hmx : rstf bs L z < bs[z + 1]?.getD 0 - bs[z]?.getD 0
                · rw [cmf_pos hmx] at HS3
                  go_wp2
                  go_region_held3 (fun wy => wy.cell? ⟨b, off, none⟩ = some (.int .i64 ((bs[(0 : Nat)]?).getD (0 : Int)))) (go_keep)
                    (first | (go_at_call 34; (with_reducible refine (commonPeriod_any _ _ n _ m _ _ hon hom).mono ?_); rw [HL.out]; rintro e w5 ⟨rfl, hx5⟩; have hk5 : ∀ o, w5.cell? ⟨b, o, none⟩ = _ := fun o => hx5.cells.1 _ o (by first | (simp; done) | (simp; omega) | omega)))
                  go_wp2
                  go_roundw
                  case rel => exact ⟨z + 1, by omega, by go_num, by rw [HS3.out], HX5.out _ hx5⟩
                  case measure => simp [intOf]; omega
                · rw [cmf_neg hmx] at HS3
                  go_wp2
                  go_region_held3 (fun wy => wy.cell? ⟨b, off, none⟩ = some (.int .i64 ((bs[(0 : Nat)]?).getD (0 : Int)))) (go_keep)
                    (first | (go_at_call 34; (with_reducible refine (commonPeriod_any _ _ n _ m _ _ hon hom).mono ?_); rw [HL.out]; rintro e w5 ⟨rfl, hx5⟩; have hk5 : ∀ o, w5.cell? ⟨b, o, none⟩ = _ := fun o => hx5.cells.1 _ o (by first | (simp; done) | (simp; omega) | omega)))
                  go_wp2
                  go_roundw
                  case rel => exact ⟨z + 1, by omega, by go_num, by rw [HS3.out], HX5.out _ hx5⟩
                  case measure => simp [intOf]; omega
              · have hli : ¬ (z : Int) + 1 < n' := by omega
                have HS3 : Hid (rstf bs L (z + 1) = cmf (rstf bs L z) ((bs[(0 : Nat)]?).getD (0 : Int) + L - bs[z]?.getD 0)) := by show _ = _; simp only [rstf, nxt]; rw [HNL.out, if_neg hl]
                clear hcell
                by_cases hmx : rstf bs L z < (bs[(0 : Nat)]?).getD (0 : Int) + L - bs[z]?.getD 0
                · rw [cmf_pos hmx] at HS3
                  go_wp2
                  go_region_held3 (fun wy => wy.cell? ⟨b, off, none⟩ = some (.int .i64 ((bs[(0 : Nat)]?).getD (0 : Int)))) (go_keep)
                    (first | (go_at_call 34; (with_reducible refine (commonPeriod_any _ _ n _ m _ _ hon hom).mono ?_); rw [HL.out]; rintro e w5 ⟨rfl, hx5⟩; have hk5 : ∀ o, w5.cell? ⟨b, o, none⟩ = _ := fun o => hx5.cells.1 _ o (by first | (simp; done) | (simp; omega) | omega)))
                  go_wp2
                  go_roundw
                  case rel => exact ⟨z + 1, by omega, by go_num, by rw [HS3.out], HX5.out _ hx5⟩
                  case measure => simp [intOf]; omega
                · rw [cmf_neg hmx] at HS3
                  go_wp2
                  go_region_held3 (fun wy => wy.cell? ⟨b, off, none⟩ = some (.int .i64 ((bs[(0 : Nat)]?).getD (0 : Int)))) (go_keep)
                    (first | (go_at_call 34; (with_reducible refine (commonPeriod_any _ _ n _ m _ _ hon hom).mono ?_); rw [HL.out]; rintro e w5 ⟨rfl, hx5⟩; have hk5 : ∀ o, w5.cell? ⟨b, o, none⟩ = _ := fun o => hx5.cells.1 _ o (by first | (simp; done) | (simp; omega) | omega)))
                  go_wp2
                  go_roundw
                  case rel => exact ⟨z + 1, by omega, by go_num, by rw [HS3.out], HX5.out _ hx5⟩
                  case measure => simp [intOf]; omega
            · obtain rfl : z = n' := by omega
              go_wp2_with (first | (at_builtin; refine appM elInt (by omega) rfl _ _ Try.underlying24 rfl rfl (hown.trans ((hxq.trans hxz).alloc _)) (by omega) rfl (by first | exact heap_alloc_new _ _ | exact heap_alloc_set _ _ _ _ | exact heap_alloc_two _ _ _) (ys := [rstf bs L z]) (by rfl) (by rfl) ?_; intro v' w4 hown'))
              go_roundw
              case rel => exact ⟨k + 1, by omega, by go_num, by rw [HS.out, ← HR.out]; exact hown'⟩
              case measure => simp [intOf]; omega
    · obtain rfl : k = H := by omega
      obtain ⟨A3, c3, rfl⟩ := hown.forms
      have HT : Hid (RetRow w 2 1 k (rsl ys N L k) 0 (.returned (.tuple #[.slice A3 k c3, .int .i64 0])) wo) := RetRow.of_ownR rfl (hown.rebase hxw)
      go_wp2
      go_ret2
      exact HT.out
theorem implRestsOf_ret (A : Option Addr) (n c : Nat) (ps : List Int) (B : Option Addr) (m d : Nat) (os : List Int) (w : World) (hI : Ints w A n ps) (hJ : Ints w B m os) :
    Calls Try.prog 9 #[.slice A n c, .slice B m d] w (RetRow w 2 1 (ldn ps os) (rsv ps os) (hcd ps os)) := by
  unfold ldn rsv
  by_cases hr : hcd ps os = 0
  · rw [if_pos hr, if_pos hr, hr, hI.len, hJ.len]
    exact implRestsOf_yes A n c ps B m d os w hI hJ hr
  · rw [if_neg hr, if_neg hr]
    have h1 : hcd ps os = 1 := by unfold hcd at hr ⊢; split <;> simp_all
    rw [h1]
    have HC : Hid (¬ hcd ps os = 0) := by show ¬ _; omega
    clear hr h1
    go_enter Try.func9, Try.ntmps9
    go_wp2_with (first | (go_at_call 28; (with_reducible refine (areHanded_no _ _ _ _ _ _ ps os _ (hI.ext (by with_reducible (repeat (first | exact Ext.refl _ | apply Ext.drewN | apply Ext.drew | apply Ext.alloc | (refine Ext.set ?_ (by first | (simp; done) | (simp; omega) | omega) _) | (refine Ext.trans ?_ (by assumption)))))) (hJ.ext (by with_reducible (repeat (first | exact Ext.refl _ | apply Ext.drewN | apply Ext.drew | apply Ext.alloc | (refine Ext.set ?_ (by first | (simp; done) | (simp; omega) | omega) _) | (refine Ext.trans ?_ (by assumption)))))) HC.out).mono ?_); rintro e w1 ⟨rfl, hx⟩; have hz := hx.size; (try simp at hz); (try (have hq0 : w.heap.size < w1.heap.size := by omega)); (try (have hc0 : ∀ o, w1.cell? ⟨w.heap.size, o, none⟩ = _ := fun o => hx.cells.1 _ o (by first | (simp; done) | (simp; omega) | omega))); (try (have hf0 : ∀ o, w1.frozen? ⟨w.heap.size, o, none⟩ = _ := fun o => hx.cells.2 _ o (by first | (simp; done) | (simp; omega) | omega))); (try (have hq1 : w.heap.size + 1 < w1.heap.size := by omega)); (try (have hc1 : ∀ o, w1.cell? ⟨w.heap.size + 1, o, none⟩ = _ := fun o => hx.cells.1 _ o (by first | (simp; done) | (simp; omega) | omega))); (try (have hf1 : ∀ o, w1.frozen? ⟨w.heap.size + 1, o, none⟩ = _ := fun o => hx.cells.2 _ o (by first | (simp; done) | (simp; omega) | omega))); (try (have hq2 : w.heap.size + 2 < w1.heap.size := by omega)); (try (have hc2 : ∀ o, w1.cell? ⟨w.heap.size + 2, o, none⟩ = _ := fun o => hx.cells.1 _ o (by first | (simp; done) | (simp; omega) | omega))); (try (have hf2 : ∀ o, w1.frozen? ⟨w.heap.size + 2, o, none⟩ = _ := fun o => hx.cells.2 _ o (by first | (simp; done) | (simp; omega) | omega)))))
    go_ret2
    exact RetRow.of_nil rfl (by with_reducible (repeat (first | exact Ext.refl _ | apply Ext.drewN | apply Ext.drew | apply Ext.alloc | (refine Ext.set ?_ (by first | (simp; done) | (simp; omega) | omega) _) | (refine Ext.trans ?_ (by assumption)))))
end Go.Proofs.Ytdmjmnkcnohhlaa
