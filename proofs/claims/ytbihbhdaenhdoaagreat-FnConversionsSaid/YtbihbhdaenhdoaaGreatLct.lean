/- How many props land at each beat of a multiplex pattern: plain words, and contracts of landingCounts and l04Landings. No condition but the stated bounds. -/
import Derived.Test.YtbihbhdaenhdoaaGreatStl
namespace Go.Proofs.YtbihbhdaenhdoaaGreat
set_option linter.unusedVariables false
set_option linter.unusedSimpArgs false
open Go.ChangeShapes Go.WideShapes Go.ChangeAt Go.RowKit Go.Joins Go.Deep

/-- Where the first k throws of beat i land, of n beats. -/
def ldb (n i : Nat) (xs : List Int) : Nat → List Nat
  | 0 => []
  | k + 1 => ldb n i xs k ++ (if 0 < xs[k]?.getD 0 then [(i + (xs[k]?.getD 0).toNat) % n] else [])
/-- Where the throws of the first i beats land. -/
def ldL (L : List (List Int)) : Nat → List Nat
  | 0 => []
  | i + 1 => ldL L i ++ ldb L.length i (ll L i) (ll L i).length
/-- How often each of the first n numbers is in S. -/
def cts (n : Nat) (S : List Nat) : List Int := (List.range n).map (fun j => (S.count j : Int))
theorem cts_len (n : Nat) (S : List Nat) : (cts n S).length = n := by simp [cts]
theorem cts_nil (n : Nat) : cts n [] = List.replicate n 0 := by
  apply List.ext_getElem <;> simp [cts]
theorem cts_get {n j : Nat} (S : List Nat) (h : j < n) : (cts n S)[j]?.getD 0 = S.count j := by simp [cts, h]
theorem cts_put {n p : Nat} (S : List Nat) (h : p < n) : (cts n S).set p ((S.count p : Int) + 1) = cts n (S ++ [p]) := by
  apply List.ext_getElem
  · simp [cts]
  · intro i h1 h2
    simp only [cts, List.length_set, List.length_map, List.length_range] at h1 h2
    rw [List.getElem_set]
    simp only [cts, List.getElem_map, List.getElem_range, List.count_append]
    by_cases e : p = i
    · subst e; simp
    · rw [if_neg e]
      simp [List.count_singleton, e]
theorem ldb_len (n i : Nat) (xs : List Int) : ∀ k, (ldb n i xs k).length ≤ k
  | 0 => Nat.le_refl _
  | k + 1 => by
    have := ldb_len n i xs k
    unfold ldb
    rw [List.length_append]
    split <;> simp <;> omega
theorem ldL_len {L : List (List Int)} (h : ∀ i, i < L.length → (ll L i).length ≤ 4) : ∀ i, i ≤ L.length → (ldL L i).length ≤ 4 * i
  | 0, _ => Nat.le_refl _
  | i + 1, hi => by
    have h1 := ldL_len h i (by omega)
    have h2 := ldb_len L.length i (ll L i) (ll L i).length
    have h3 := h i (by omega)
    unfold ldL
    rw [List.length_append]
    omega
/-- What is known of rows that are beats. -/
theorem stks_iff {L : List (List Int)} (h : stks L = true) : 1 ≤ L.length ∧ L.length ≤ 12 ∧ ∀ i, i < L.length → 1 ≤ (ll L i).length ∧ (ll L i).length ≤ 4 ∧ (∀ k, k < (ll L i).length → 0 ≤ (ll L i)[k]?.getD 0 ∧ (ll L i)[k]?.getD 0 ≤ 15) ∧ ((ll L i)[0]?.getD 0 = 0 → (ll L i).length = 1) := by
  unfold stks at h
  rw [Bool.and_eq_true, decide_eq_true_iff, btw_iff] at h
  obtain ⟨ha, hb⟩ := h
  refine ⟨by omega, by omega, fun i hi => ?_⟩
  have hk := ha i hi
  unfold stk at hk
  rw [Bool.and_eq_true, decide_eq_true_iff, btw_iff] at hk
  obtain ⟨hs, hl⟩ := hk
  refine ⟨by omega, by omega, fun k hk => ?_, fun h0 => ?_⟩
  · have := hs k hk
    unfold stB at this
    simp only [Bool.and_eq_true, btw_iff] at this
    exact this.1.1
  · have := hs 0 (by omega)
    unfold stB at this
    rw [h0] at this
    simp at this
    omega
/-- A multiplex pattern is valid. -/
def vmul (L : List (List Int)) : Bool := stks L && decide (∀ i, i < L.length → ((ldL L L.length).count i : Int) = thn (ll L i))
theorem vmul_no {L : List (List Int)} {i : Nat} (hi : i < L.length) (h : ¬ ((ldL L L.length).count i : Int) = thn (ll L i)) : vmul L = false := by
  unfold vmul
  rw [decide_eq_false (fun h' => h (h' i hi)), Bool.and_false]
theorem vmul_yes {L : List (List Int)} (hs : stks L = true) (h : ∀ i, i < L.length → ((ldL L L.length).count i : Int) = thn (ll L i)) : vmul L = true := by
  unfold vmul
  rw [hs, decide_eq_true h]
  rfl
/-- A number of a row of the call's own is written. -/
theorem Own.putAt {w wr : World} {g n c : Nat} {ys : List Int} (h : Own w wr (.slice (some ⟨g, 0, none⟩) n c) ys) (hl : ys.length = n) (p : Nat) (y : Int) : Own w (wr.setCell ⟨g, p, none⟩ (.int .i64 y)) (.slice (some ⟨g, 0, none⟩) n c) (ys.set p y) := by
  subst hl
  have hst := (World.ownsRow.stored h.own p (.int .i64 y)).1
  rw [← List.map_set] at hst
  exact ⟨by rw [List.length_set]; exact hst, h.ext.set (World.ownsRow.lt h.own g rfl).1 _⟩
theorem Own.cellAt {w wr : World} {g n c : Nat} {ys : List Int} (h : Own w wr (.slice (some ⟨g, 0, none⟩) n c) ys) (hl : ys.length = n) {p : Nat} (hp : p < n) : wr.cell? ⟨g, p, none⟩ = some (.int .i64 (ys[p]?.getD 0)) ∧ wr.frozen? ⟨g, p, none⟩ = false := by
  subst hl
  refine ⟨?_, World.ownsRow.frozenAt h.own p⟩
  rw [World.ownsRow.cellAt h.own p (by omega), List.getElem?_map, List.getElem?_eq_getElem hp]
  rfl
theorem own_made0 {w W : World} (h : Ext w W) (r : Nat) (hr : r ≤ 1000) : Own w (W.alloc (.cells (madeCells #[.int .i64 0] r) 2)) (.slice (some ⟨W.heap.size, 0, none⟩) r r) (List.replicate r (0 : Int)) := by
  have hm : (madeCells #[Value.int .i64 0] r).toList = (List.replicate r (0 : Int)).map (Value.int .i64) := by
    rw [List.map_replicate]
    simp [madeCells]
    apply List.ext_getElem <;> simp [Nat.mod_one]
  refine ⟨⟨by simp, .inr ⟨W.heap.size, r, madeCells #[.int .i64 0] r, by simp, h.size, heap_alloc_new _ _, by simp, by unfold maxLen; omega, by simp [size_madeCells], ?_⟩⟩, h.alloc _⟩
  rw [hm, List.length_replicate]
  exact List.take_of_length_le (by simp)
set_option maxHeartbeats 4000000 in
theorem landingCounts_any (A : Option Addr) (n c : Nat) (L : List (List Int)) (w : World) (hI : Lists w A n L) (hs : stks L = true) :
    Calls Tryz.prog 90 #[.slice A n c] w (RetInts w (cts n (ldL L n))) := by
  obtain ⟨n1, n12, hrow⟩ := stks_iff hs
  have hl := hI.len
  rw [hl] at n1 n12
  have HROW : Hid (∀ i, i < n → 1 ≤ (ll L i).length ∧ (ll L i).length ≤ 4 ∧ (∀ k, k < (ll L i).length → 0 ≤ (ll L i)[k]?.getD 0 ∧ (ll L i)[k]?.getD 0 ≤ 15)) := fun i hi => by
    obtain ⟨a, b, c, _⟩ := hrow i (by omega)
    exact ⟨a, b, c⟩
  have HLL : Hid (∀ i, i ≤ n → (ldL L i).length ≤ 4 * i) := fun i hi => ldL_len (fun i hi => (hrow i hi).2.1) i (by omega)
  have HSUC : Hid (∀ i, ldL L (i + 1) = ldL L i ++ ldb n i (ll L i) (ll L i).length) := fun i => by rw [← hl]; rfl
  clear hrow hs hl
  have hmk := fun W => run_make_row' (P := Tryz.prog) 24 2 (.int .i64 0) 8 Tryz.underlying24 infoInt rfl .i64 .i64 n (by omega) (by omega) W
  have hO : Own w (w.alloc (.cells (madeCells #[.int .i64 0] n) 2)) (.slice (some ⟨w.heap.size, 0, none⟩) n n) (cts n (ldL L 0)) := by
    show Own _ _ _ (cts n [])
    rw [cts_nil]
    exact own_made0 (Ext.refl w) n (by omega)
  go_enter Tryz.func90, Tryz.ntmps90
  go_wp2
  clear hmk
  go_loopw [15] (fun i wr => ∃ k : Nat, k ≤ n ∧ i = .int .i64 k ∧ Own w wr (.slice (some ⟨w.heap.size, 0, none⟩) n n) (cts n (ldL L k))) (fun i _ => n - (intOf i).toNat)
  case atStart => exact ⟨0, Nat.zero_le _, rfl, hO⟩
  case round =>
    clear hO
    obtain ⟨k, hk, rfl, hown⟩ := hrel
    by_cases hlt : k < n
    · obtain ⟨b, off, rfl, hb, hcell⟩ := hI.at_ (by omega)
      obtain ⟨B, m, d, c00, hJ⟩ := hcell k hlt
      have c0 := hown.ext.cell hb c00
      clear c00
      have hki : (k : Int) < n := by omega
      clear hcell
      obtain ⟨hm1, hm4, hbd⟩ := HROW.out k hlt
      have hlen := hJ.len
      have HL1 := HLL.out k (by omega)
      have HS := Lib.hid (HSUC.out k)
      have HLB : Hid (∀ j, j ≤ m → (ldb n k (ll L k) j).length ≤ j) := fun j _ => ldb_len _ _ _ j
      rw [hlen] at hm1 hm4 hbd HS
      have HBD := Lib.hid hbd
      clear hbd
      obtain ⟨S0, hS0⟩ : ∃ S, ldL L k = S := ⟨_, rfl⟩
      rw [hS0] at hown HL1 HS
      have HO := Lib.hid hown
      go_wp2
      go_loopw [22] (fun i wr => ∃ j : Nat, j ≤ m ∧ i = .int .i64 j ∧ Own w wr (.slice (some ⟨w.heap.size, 0, none⟩) n n) (cts n (S0 ++ ldb n k (ll L k) j))) (fun i _ => m - (intOf i).toNat)
      case atStart => exact ⟨0, Nat.zero_le _, rfl, by show Own _ _ _ (cts n (S0 ++ [])); rw [List.append_nil]; exact HO.out⟩
      case round =>
        clear HO hown
        obtain ⟨j, hj, rfl, hown⟩ := hrel
        by_cases hjl : j < m
        · obtain ⟨b2, off2, rfl, hb2, hc2⟩ := (hJ.ext hown.ext).at_ (by omega)
          have e0 := hc2 j hjl
          obtain ⟨hx0, hx15⟩ := HBD.out j hjl
          have HLJ := HLB.out j hj
          have HSJ : Hid (ldb n k (ll L k) (j + 1) = ldb n k (ll L k) j ++ (if 0 < (ll L k)[j]?.getD 0 then [(k + ((ll L k)[j]?.getD 0).toNat) % n] else [])) := rfl
          have hji : (j : Int) < m := by omega
          clear hc2
          generalize (ll L k)[j]?.getD 0 = x at e0 hx0 hx15 HSJ
          generalize ldb n k (ll L k) j = S1 at HLJ HSJ hown
          by_cases hx : 0 < x
          · obtain ⟨q, rfl⟩ : ∃ q : Nat, x = q := ⟨x.toNat, by omega⟩
            have hpl := Nat.mod_lt (k + q) (show 0 < n by omega)
            have hpi : ((k : Int) + q) % n = (((k + q) % n : Nat) : Int) := by norm_cast
            rw [if_pos hx, Int.toNat_natCast] at HSJ
            generalize (k + q) % n = p at hpl hpi HSJ
            obtain ⟨e1, f1⟩ := hown.cellAt (cts_len _ _) hpl
            rw [cts_get _ hpl] at e1
            have hcb : (S0 ++ S1).count p ≤ 100 := by
              have := List.count_le_length (a := p) (l := S0 ++ S1)
              rw [List.length_append] at this
              omega
            have hput := hown.putAt (cts_len _ _) p (((S0 ++ S1).count p : Int) + 1)
            rw [cts_put _ hpl, List.append_assoc, ← HSJ.out] at hput
            have HP := Lib.hid hput
            have hpin : (p : Int) < n := by omega
            clear hput hown
            generalize (S0 ++ S1).count p = z at e1 hcb HP
            go_wp2
            go_roundw
            case rel => exact ⟨j + 1, by omega, by go_num, HP.out⟩
            case measure => simp [intOf]; omega
          · rw [if_neg hx, List.append_nil] at HSJ
            rw [← HSJ.out] at hown
            have HP := Lib.hid hown
            clear hown
            go_wp2
            go_roundw
            case rel => exact ⟨j + 1, by omega, by go_num, HP.out⟩
            case measure => simp [intOf]; omega
        · obtain rfl : j = m := by omega
          rw [← HS.out] at hown
          have HP := Lib.hid hown
          clear hown
          go_wp2
          go_roundw
          case rel => exact ⟨k + 1, by omega, by go_num, HP.out⟩
          case measure => simp [intOf]; omega
    · obtain rfl : k = n := by omega
      have HT : Hid (RetInts w (cts k (ldL L k)) (.returned (.slice (some ⟨w.heap.size, 0, none⟩) k k)) wr) := ⟨_, _, by rw [cts_len], by rw [cts_len]; exact hown⟩
      go_wp2
      go_ret
      exact HT.out
/-- A box of a multiplex pattern. -/
structure MBox (w : World) (g o : Nat) (A : Option Addr) (n c : Nat) : Prop where
  lt : g < w.heap.size
  c0 : w.cell? ⟨g, o, none⟩ = some (.slice A n c)
theorem MBox.ext {w w' : World} {g o : Nat} {A : Option Addr} {n c : Nat} (h : MBox w g o A n c) (k : Ext w w') : MBox w' g o A n c := ⟨Nat.lt_of_lt_of_le h.lt k.size, k.cell h.lt h.c0⟩
set_option maxHeartbeats 4000000 in
theorem l04Landings_any (g o : Nat) (A : Option Addr) (n c : Nat) (L : List (List Int)) (w : World) (hB : MBox w g o A n c) (hI : Lists w A n L) (hs : stks L = true) :
    Calls Tryz.prog 100 #[.pointer (some ⟨g, o, none⟩)] w (RetInts w (cts n (ldL L n))) := by
  obtain ⟨hg, hb0⟩ := hB
  obtain ⟨n1, n12, hrow⟩ := stks_iff hs
  have hl := hI.len
  rw [hl] at n1 n12
  have HROW : Hid (∀ i, i < n → 1 ≤ (ll L i).length ∧ (ll L i).length ≤ 4 ∧ (∀ k, k < (ll L i).length → 0 ≤ (ll L i)[k]?.getD 0 ∧ (ll L i)[k]?.getD 0 ≤ 15)) := fun i hi => by
    obtain ⟨a, b, c, _⟩ := hrow i (by omega)
    exact ⟨a, b, c⟩
  have HLL : Hid (∀ i, i ≤ n → (ldL L i).length ≤ 4 * i) := fun i hi => ldL_len (fun i hi => (hrow i hi).2.1) i (by omega)
  have HSUC : Hid (∀ i, ldL L (i + 1) = ldL L i ++ ldb n i (ll L i) (ll L i).length) := fun i => by rw [← hl]; rfl
  clear hrow hs hl
  have hmk := fun W => run_make_row' (P := Tryz.prog) 24 2 (.int .i64 0) 8 Tryz.underlying24 infoInt rfl .i64 .i64 n (by omega) (by omega) W
  have hO : Own w (w.alloc (.cells (madeCells #[.int .i64 0] n) 2)) (.slice (some ⟨w.heap.size, 0, none⟩) n n) (cts n (ldL L 0)) := by
    show Own _ _ _ (cts n [])
    rw [cts_nil]
    exact own_made0 (Ext.refl w) n (by omega)
  go_enter Tryz.func100, Tryz.ntmps100
  go_wp2
  clear hmk
  go_loopw [5, 6] (fun i i2 wr => ∃ k : Nat, k ≤ n ∧ i = .int .i64 k ∧ Own w wr (.slice (some ⟨w.heap.size, 0, none⟩) n n) (cts n (ldL L k))) (fun i _ _ => n - (intOf i).toNat)
  case atStart => exact ⟨0, Nat.zero_le _, rfl, hO⟩
  case round =>
    clear hO
    obtain ⟨k, hk, rfl, hown⟩ := hrel
    have q0 := hown.ext.cell hg hb0
    have z0 := hown.ext.size
    have z1 : g < wr.heap.size := by omega
    by_cases hlt : k < n
    · obtain ⟨b, off, rfl, hb, hcell⟩ := hI.at_ (by omega)
      obtain ⟨B, m, d, c00, hJ⟩ := hcell k hlt
      have c0 := hown.ext.cell hb c00
      have hki : (k : Int) < n := by omega
      clear hcell
      obtain ⟨hm1, hm4, hbd⟩ := HROW.out k hlt
      have hlen := hJ.len
      have HL1 := HLL.out k (by omega)
      have HS := Lib.hid (HSUC.out k)
      have HLB : Hid (∀ j, j ≤ m → (ldb n k (ll L k) j).length ≤ j) := fun j _ => ldb_len _ _ _ j
      rw [hlen] at hm1 hm4 hbd HS
      have HBD := Lib.hid hbd
      clear hbd
      obtain ⟨S0, hS0⟩ : ∃ S, ldL L k = S := ⟨_, rfl⟩
      rw [hS0] at hown HL1 HS
      have HO := Lib.hid hown
      go_wp2
      go_loopw [6] (fun i wr => ∃ j : Nat, j ≤ m ∧ i = .int .i64 j ∧ Own w wr (.slice (some ⟨w.heap.size, 0, none⟩) n n) (cts n (S0 ++ ldb n k (ll L k) j))) (fun i _ => m - (intOf i).toNat)
      case atStart => exact ⟨0, Nat.zero_le _, rfl, by show Own _ _ _ (cts n (S0 ++ [])); rw [List.append_nil]; exact HO.out⟩
      case round =>
        clear HO hown
        obtain ⟨j, hj, rfl, hown⟩ := hrel
        have p0 := hown.ext.cell hg hb0
        have p1 := hown.ext.cell hb c00
        have y0 := hown.ext.size
        have y1 : g < wr.heap.size := by omega
        by_cases hjl : j < m
        · obtain ⟨b2, off2, rfl, hb2, hc2⟩ := (hJ.ext hown.ext).at_ (by omega)
          have e0 := hc2 j hjl
          obtain ⟨hx0, hx15⟩ := HBD.out j hjl
          have HLJ := HLB.out j hj
          have HSJ : Hid (ldb n k (ll L k) (j + 1) = ldb n k (ll L k) j ++ (if 0 < (ll L k)[j]?.getD 0 then [(k + ((ll L k)[j]?.getD 0).toNat) % n] else [])) := rfl
          have hji : (j : Int) < m := by omega
          clear hc2
          generalize (ll L k)[j]?.getD 0 = x at e0 hx0 hx15 HSJ
          generalize ldb n k (ll L k) j = S1 at HLJ HSJ hown
          by_cases hx : 0 < x
          · obtain ⟨q, rfl⟩ : ∃ q : Nat, x = q := ⟨x.toNat, by omega⟩
            have hpl := Nat.mod_lt (k + q) (show 0 < n by omega)
            have hpi : ((k : Int) + q) % n = (((k + q) % n : Nat) : Int) := by norm_cast
            rw [if_pos hx, Int.toNat_natCast] at HSJ
            generalize (k + q) % n = p at hpl hpi HSJ
            obtain ⟨e1, f1⟩ := hown.cellAt (cts_len _ _) hpl
            rw [cts_get _ hpl] at e1
            have hcb : (S0 ++ S1).count p ≤ 100 := by
              have := List.count_le_length (a := p) (l := S0 ++ S1)
              rw [List.length_append] at this
              omega
            have hput := hown.putAt (cts_len _ _) p (((S0 ++ S1).count p : Int) + 1)
            rw [cts_put _ hpl, List.append_assoc, ← HSJ.out] at hput
            have HP := Lib.hid hput
            have hpin : (p : Int) < n := by omega
            clear hput hown
            generalize (S0 ++ S1).count p = z at e1 hcb HP
            go_wp2
            go_roundw
            case rel => exact ⟨j + 1, by omega, by go_num, HP.out⟩
            case measure => simp [intOf]; omega
          · rw [if_neg hx, List.append_nil] at HSJ
            rw [← HSJ.out] at hown
            have HP := Lib.hid hown
            clear hown
            go_wp2
            go_roundw
            case rel => exact ⟨j + 1, by omega, by go_num, HP.out⟩
            case measure => simp [intOf]; omega
        · obtain rfl : j = m := by omega
          rw [← HS.out] at hown
          have HP := Lib.hid hown
          clear hown
          go_wp2
          go_roundw
          case rel => exact ⟨k + 1, by omega, by go_num, HP.out⟩
          case measure => simp [intOf]; omega
    · obtain rfl : k = n := by omega
      have HT : Hid (RetInts w (cts k (ldL L k)) (.returned (.slice (some ⟨w.heap.size, 0, none⟩) k k)) wr) := ⟨_, _, by rw [cts_len], by rw [cts_len]; exact hown⟩
      go_wp2
      go_ret
      exact HT.out
end Go.Proofs.YtbihbhdaenhdoaaGreat
