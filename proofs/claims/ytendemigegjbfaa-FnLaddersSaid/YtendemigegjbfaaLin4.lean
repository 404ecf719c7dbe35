/- Pictures of throws: contracts of isRight and l18Line. No condition but the stated bounds. -/
import Derived.Test.YtendemigegjbfaaLin3
import Derived.Deep.RegionHeld3
import Derived.Deep.DeepCutAuto
namespace Go.Proofs.Ytendemigegjbfaa
set_option linter.unusedVariables false
set_option linter.unusedSimpArgs false
open Go.RowKit Go.Joins

/-- A fact that unification does not open. -/
structure Boxed (p : Prop) : Prop where
  out : p
/-- Is there a star in column c above line i? -/
def bef (ls : List ByteArray) (i c : Nat) : Bool := decide (∃ j, j < i ∧ bt (gs ls j) c = 42)
theorem bef_zero (ls : List ByteArray) (c : Nat) : bef ls 0 c = false := by simp [bef]
theorem bef_hit {ls : List ByteArray} {i c : Nat} (h : bt (gs ls i) c = 42) : bef ls (i + 1) c = true := decide_eq_true ⟨i, by omega, h⟩
theorem bef_miss {ls : List ByteArray} {i c : Nat} (h : ¬ bt (gs ls i) c = 42) : bef ls (i + 1) c = bef ls i c := by
  unfold bef
  rw [decide_eq_decide]
  constructor
  · rintro ⟨j, hj, e⟩
    by_cases e2 : j = i
    · subst e2; exact absurd e h
    · exact ⟨j, by omega, e⟩
  · rintro ⟨j, hj, e⟩; exact ⟨j, by omega, e⟩
theorem bef_kept {ls : List ByteArray} {i c : Nat} (h : bef ls i c = true) : bef ls (i + 1) c = true := by
  unfold bef at h ⊢
  rw [decide_eq_true_iff] at h ⊢
  obtain ⟨j, hj, e⟩ := h
  exact ⟨j, by omega, e⟩
/-- The character in column c of line i is right. -/
def lcol (ls : List ByteArray) (i c : Nat) : Prop := (bt (gs ls i) c = 124 → bef ls i c = true) ∧ (bt (gs ls i) c = 46 → bef ls i c = false)
instance (ls : List ByteArray) (i c : Nat) : Decidable (lcol ls i c) := by unfold lcol; infer_instance
/-- The digit of line i, the number of stars, the throw told. -/
def lhead (m : Nat) (d t : Int) (i n : Nat) : Prop := m ≤ 1 ∧ (m = 0 ↔ d = 0) ∧ (0 < t → t = d) ∧ (t < 0 → ¬ (i : Int) + d < n)
instance (m : Nat) (d t : Int) (i n : Nat) : Decidable (lhead m d t i n) := by unfold lhead; infer_instance
/-- The columns below c of line i are right. -/
def LCols (ls : List ByteArray) (i k : Nat) : Prop := ∀ c, c < k → (2 ≤ c → lcol ls i c)
instance (ls : List ByteArray) (i k : Nat) : Decidable (LCols ls i k) := by unfold LCols; infer_instance
theorem LCols.two (ls : List ByteArray) (i : Nat) : LCols ls i 2 := fun c h h2 => absurd h (by omega)
theorem LCols.succ {ls : List ByteArray} {i k : Nat} (h : LCols ls i k) (hk : lcol ls i k) : LCols ls i (k + 1) := fun c hc h2 => by
  by_cases e : c = k
  · rw [e]; exact hk
  · exact h c (by omega) h2
/-- Line i is right. -/
def lrt (ls : List ByteArray) (i : Nat) : Bool := decide (lhead (stl (gs ls i) (gs ls i).size).length (hxv (bt (gs ls i) 0)) (told ls i) i ls.length ∧ LCols ls i (gs ls i).size)
theorem lrt_head {ls : List ByteArray} {i : Nat} (h : ¬ lhead (stl (gs ls i) (gs ls i).size).length (hxv (bt (gs ls i) 0)) (told ls i) i ls.length) : lrt ls i = false := decide_eq_false (fun a => h a.1)
theorem lrt_col {ls : List ByteArray} {i c : Nat} (h : ¬ lcol ls i c) (hc : c < (gs ls i).size) (h2 : 2 ≤ c) : lrt ls i = false := decide_eq_false (fun a => h (a.2 c hc h2))
theorem lrt_yes {ls : List ByteArray} {i : Nat} (h : lhead (stl (gs ls i) (gs ls i).size).length (hxv (bt (gs ls i) 0)) (told ls i) i ls.length) (h2 : LCols ls i (gs ls i).size) : lrt ls i = true := decide_eq_true ⟨h, h2⟩
set_option maxHeartbeats 8000000 in
set_option maxRecDepth 100000 in
theorem l18Line_any (A : Option Addr) (n c : Nat) (ls : List ByteArray) (i : Nat) (w : World) (hI : Strs w A n ls) (hf : lfm ls = true) (hi : i < n) :
    Calls Try.prog 62 #[.slice A n c, .int .i64 i] w fun e w' => e = .returned (.bool (lrt ls i)) ∧ w = w' := by
  have HF := Lib.hid hf
  obtain ⟨hrow, h60⟩ := lfm_iff hf
  rw [hI.len] at hrow h60
  have HROW := Lib.hid hrow
  have HL := Lib.hid hI.len
  clear hrow hf
  obtain ⟨b, off, hA, hb, hcell⟩ := hI.at_ (by omega)
  subst hA
  have c0 := hcell i hi
  have HC := Lib.hid hcell
  clear hcell
  have hii : (i : Int) < n := by omega
  obtain ⟨g1, g2, g3, g4, _⟩ := HROW.out i hi
  have hz0 : (0 : Nat) < (gs ls i).size := by omega
  have hz0i : (0 : Int) < (gs ls i).size := by omega
  have hll := stl_len (gs ls i) (gs ls i).size
  have htb := told_bd ls (i := i) (by rw [HL.out]; exact hi)
  rw [HL.out] at htb
  have hx0 := bt_eq hz0
  have HX : Hid (hxv (gs ls i)[0].toNat = hxv (bt (gs ls i) 0)) := by show _ = _; rw [hx0]
  have hB0 : (gs ls i)[0].toNat ≤ 255 := by rw [hx0]; exact bt_bd _ 0
  clear hx0
  have hxb := hxv_bd (bt (gs ls i) 0)
  have HNH : Hid (¬ lhead (stl (gs ls i) (gs ls i).size).length (hxv (bt (gs ls i) 0)) (told ls i) i n → lrt ls i = false) := Lib.hid (fun h => lrt_head (by rw [HL.out]; exact h))
  have HYH : Hid (lhead (stl (gs ls i) (gs ls i).size).length (hxv (bt (gs ls i) 0)) (told ls i) i n → LCols ls i (gs ls i).size → lrt ls i = true) := Lib.hid (fun h => lrt_yes (by rw [HL.out]; exact h))
  have hT : (stl (gs ls i) (gs ls i).size).length = 0 ∧ told ls i = 0 ∨ (stl (gs ls i) (gs ls i).size).length = 1 ∧ (told ls i = -1 ∨ 1 ≤ told ls i) ∨ 2 ≤ (stl (gs ls i) (gs ls i).size).length := by
    rcases stl_cases (gs ls i) with h | ⟨k, h, _⟩ | h
    · exact .inl ⟨by rw [h]; rfl, told_none h⟩
    · refine .inr (.inl ⟨by rw [h]; rfl, ?_⟩)
      rw [told_one h]
      rcases seek_bd (fun j => decide (bt (gs ls j) k = 42)) (i + 1) (ls.length - (i + 1)) (Nat.lt_succ_self i) with h | h
      · exact .inl h
      · exact .inr h.1
    · exact .inr (.inr h)
  obtain ⟨m, hm⟩ : ∃ m, (stl (gs ls i) (gs ls i).size).length = m := ⟨_, rfl⟩
  obtain ⟨u, hu⟩ : ∃ u, stv (gs ls i) = u := ⟨_, rfl⟩
  have HU := Lib.hid hu
  have hum : (m = 0 → u = -1) ∧ (m = 1 → 2 ≤ u) ∧ (2 ≤ m → u = -2) := by
    rw [← hu, ← hm]
    rcases stl_cases (gs ls i) with h | ⟨k, h, h2, _⟩ | h
    · rw [stv_none h, h]; simp
    · rw [stv_one h, h]; simp; omega
    · rw [stv_more h]; omega
  clear hu
  obtain ⟨d, hd⟩ : ∃ d, hxv (bt (gs ls i) 0) = d := ⟨_, rfl⟩
  obtain ⟨t, ht⟩ : ∃ t, told ls i = t := ⟨_, rfl⟩
  have HT := Lib.hid ht
  rw [hd] at HX
  rw [hm, hd, ht] at HNH HYH
  rw [hm] at hT hll
  rw [ht] at hT htb
  rw [hd] at g4 hxb
  clear hm hd ht
  go_enter Try.func62, Try.ntmps62
  rcases hT with ⟨hm, ht⟩ | ⟨hm, ht⟩ | hm
  · subst hm ht
    obtain rfl := hum.1 rfl
    by_cases hd : d = 0
    · subst hd
      have HY : Hid (LCols ls i (gs ls i).size → lrt ls i = true) := HYH.out ⟨by omega, by omega, by omega, by omega⟩
      go_wp2_with (first | (go_at_call 87; (with_reducible refine (l18Star_is _ _ g2 g3 _ HU).mono ?_); rintro e w' ⟨rfl, rfl⟩) | (go_at_call 76; (with_reducible refine (l04Value_is _ hB0 _ HX.out _).mono ?_); rintro e w' ⟨rfl, rfl⟩) | (go_at_call 64; (with_reducible refine (l18Throw_is _ _ _ ls i _ hI HF hi _ HT).mono ?_); rintro e w' ⟨rfl, rfl⟩))
      go_loop [8] (fun q => Boxed (∃ k : Nat, 2 ≤ k ∧ k ≤ (gs ls i).size ∧ q = .int .i64 k ∧ LCols ls i k)) (fun q => (gs ls i).size - (intOf q).toNat)
      case atStart => exact ⟨⟨2, by omega, g2, rfl, LCols.two ls i⟩⟩
      case round =>
        obtain ⟨⟨k, hk2, hk, rfl, hcols⟩⟩ := hrel
        have HCO := Lib.hid hcols
        clear hcols
        by_cases hlt : k < (gs ls i).size
        · have hki : (k : Int) < (gs ls i).size := by omega
          have c5 := HC.out i hi
          have hbi := bt_eq hlt
          have HNO : Hid (¬ lcol ls i k → lrt ls i = false) := Lib.hid (fun h => lrt_col h hlt hk2)
          have HGI : Hid (gs ls i = gs ls i) := rfl
          go_wp2
          go_loop [10, 9] (fun p bb => ∃ j : Nat, j ≤ i ∧ p = .int .i64 j ∧ bb = .bool (bef ls j k)) (fun p _ => i - (intOf p).toNat)
          case atStart => exact ⟨0, by omega, rfl, by rw [bef_zero]⟩
          case round =>
            obtain ⟨j, hj, rfl, rfl⟩ := hrel
            by_cases hjl : j < i
            · have hji : (j : Int) < i := by omega
              have hjn : (j : Int) < n := by omega
              have c6 := HC.out j (by omega)
              obtain ⟨r1, _⟩ := HROW.out j (by omega)
              have hkj : k < (gs ls j).size := by omega
              have hkji : (k : Int) < (gs ls j).size := by omega
              have hbk := bt_eq hkj
              cases hbf : bef ls j k
              · by_cases h1 : bt (gs ls j) k = 42
                · have HR : Hid (bef ls (j + 1) k = true) := bef_hit h1
                  have e1 : ((((gs ls j)[k].toNat : Nat) : Int) == 42) = true := by rw [hbk, h1]; rfl
                  clear hbk h1 hbf
                  generalize gs ls j = t at *
                  go_wp2
                  go_round
                  case rel => exact ⟨j + 1, by omega, by go_num, by rw [HR.out]⟩
                  case measure => simp [intOf]; omega
                · have HR : Hid (bef ls (j + 1) k = false) := by show _ = _; rw [bef_miss h1, hbf]
                  have e1 : ((((gs ls j)[k].toNat : Nat) : Int) == 42) = false := by rw [hbk]; simp; omega
                  clear hbk h1 hbf
                  generalize gs ls j = t at *
                  go_wp2
                  go_round
                  case rel => exact ⟨j + 1, by omega, by go_num, by rw [HR.out]⟩
                  case measure => simp [intOf]; omega
              · have HR : Hid (bef ls (j + 1) k = true) := bef_kept hbf
                clear hbk hbf
                generalize gs ls j = t at *
                go_wp2
                go_round
                case rel => exact ⟨j + 1, by omega, by go_num, by rw [HR.out]⟩
                case measure => simp [intOf]; omega
            · obtain rfl : j = i := by omega
              have c7 := HC.out j hi
              by_cases h1 : bt (gs ls j) k = 124
              · have e1 : ((((gs ls j)[k].toNat : Nat) : Int) == 124) = true := by rw [hbi, h1]; rfl
                have e2 : ((((gs ls j)[k].toNat : Nat) : Int) == 46) = false := by rw [hbi, h1]; rfl
                cases hbf : bef ls j k
                · have HR : Hid (lrt ls j = false) := HNO.out (fun a => by have := a.1 h1; rw [hbf] at this; cases this)
                  clear hbi h1 hbf
                  generalize gs ls j = t at *
                  go_wp2
                  go_ret
                  exact ⟨ret_bool HR.out.symm, rfl⟩
                · have HR : Hid (LCols ls j (k + 1)) := HCO.out.succ ⟨fun _ => hbf, fun a => by omega⟩
                  clear hbi h1 hbf
                  have HG := Lib.hid g2
                  go_wp2
                  go_round
                  case rel => first | exact ⟨⟨k + 1, by omega, by omega, by go_num, HR.out⟩⟩ | ((repeat apply Exists.intro); exact ⟨⟨⟨k + 1, by omega, by omega, by go_num, HR.out⟩⟩, rfl⟩)
                  case measure => simp [intOf]; omega
              · have e1 : ((((gs ls j)[k].toNat : Nat) : Int) == 124) = false := by rw [hbi]; simp; omega
                by_cases h3 : bt (gs ls j) k = 46
                · have e2 : ((((gs ls j)[k].toNat : Nat) : Int) == 46) = true := by rw [hbi, h3]; rfl
                  cases hbf : bef ls j k
                  · have HR : Hid (LCols ls j (k + 1)) := HCO.out.succ ⟨fun a => by omega, fun _ => hbf⟩
                    clear hbi h1 h3 hbf
                    go_wp2
                    go_round
                    case rel => first | exact ⟨⟨k + 1, by omega, by omega, by go_num, HR.out⟩⟩ | ((repeat apply Exists.intro); exact ⟨⟨⟨k + 1, by omega, by omega, by go_num, HR.out⟩⟩, rfl⟩)
                    case measure => simp [intOf]; omega
                  · have HR : Hid (lrt ls j = false) := HNO.out (fun a => by have := a.2 h3; rw [hbf] at this; cases this)
                    clear hbi h1 h3 hbf
                    go_wp2
                    go_ret
                    exact ⟨ret_bool HR.out.symm, rfl⟩
                · have e2 : ((((gs ls j)[k].toNat : Nat) : Int) == 46) = false := by rw [hbi]; simp; omega
                  have HR : Hid (LCols ls j (k + 1)) := HCO.out.succ ⟨fun a => by omega, fun a => by omega⟩
                  clear hbi h1 h3
                  go_wp2
                  go_round
                  case rel => first | exact ⟨⟨k + 1, by omega, by omega, by go_num, HR.out⟩⟩ | ((repeat apply Exists.intro); exact ⟨⟨⟨k + 1, by omega, by omega, by go_num, HR.out⟩⟩, rfl⟩)
                  case measure => simp [intOf]; omega
        · obtain rfl : k = (gs ls i).size := by omega
          have HR : Hid (lrt ls i = true) := HY.out HCO.out
          go_wp2
          go_ret
          exact ⟨ret_bool HR.out.symm, rfl⟩
    · have hdz : (d == 0) = false := by simp; omega
      have HR : Hid (lrt ls i = false) := HNH.out (fun a => by obtain ⟨a1, a2, a3, a4⟩ := a; omega)
      go_wp2_with (first | (go_at_call 87; (with_reducible refine (l18Star_is _ _ g2 g3 _ HU).mono ?_); rintro e w' ⟨rfl, rfl⟩) | (go_at_call 76; (with_reducible refine (l04Value_is _ hB0 _ HX.out _).mono ?_); rintro e w' ⟨rfl, rfl⟩) | (go_at_call 64; (with_reducible refine (l18Throw_is _ _ _ ls i _ hI HF hi _ HT).mono ?_); rintro e w' ⟨rfl, rfl⟩))
      go_ret
      exact ⟨ret_bool HR.out.symm, rfl⟩
  · subst hm
    have hu1 := hum.2.1 rfl
    have hu2 : (u == -2) = false := by simp; omega
    have hu3 : (u == -1) = false := by simp; omega
    by_cases hd : d = 0
    · subst hd
      have HR : Hid (lrt ls i = false) := HNH.out (fun a => by obtain ⟨a1, a2, a3, a4⟩ := a; omega)
      go_wp2_with (first | (go_at_call 87; (with_reducible refine (l18Star_is _ _ g2 g3 _ HU).mono ?_); rintro e w' ⟨rfl, rfl⟩) | (go_at_call 76; (with_reducible refine (l04Value_is _ hB0 _ HX.out _).mono ?_); rintro e w' ⟨rfl, rfl⟩) | (go_at_call 64; (with_reducible refine (l18Throw_is _ _ _ ls i _ hI HF hi _ HT).mono ?_); rintro e w' ⟨rfl, rfl⟩))
      go_ret
      exact ⟨ret_bool HR.out.symm, rfl⟩
    · have hdz : (d == 0) = false := by simp; omega
      rcases ht with ht | ht
      · subst ht
        by_cases hq : (i : Int) + d < n
        · have HR : Hid (lrt ls i = false) := HNH.out (fun a => by obtain ⟨a1, a2, a3, a4⟩ := a; omega)
          go_wp2_with (first | (go_at_call 87; (with_reducible refine (l18Star_is _ _ g2 g3 _ HU).mono ?_); rintro e w' ⟨rfl, rfl⟩) | (go_at_call 76; (with_reducible refine (l04Value_is _ hB0 _ HX.out _).mono ?_); rintro e w' ⟨rfl, rfl⟩) | (go_at_call 64; (with_reducible refine (l18Throw_is _ _ _ ls i _ hI HF hi _ HT).mono ?_); rintro e w' ⟨rfl, rfl⟩))
          go_ret
          exact ⟨ret_bool HR.out.symm, rfl⟩
        · have HY : Hid (LCols ls i (gs ls i).size → lrt ls i = true) := HYH.out ⟨by omega, by omega, by omega, by omega⟩
          go_wp2_with (first | (go_at_call 87; (with_reducible refine (l18Star_is _ _ g2 g3 _ HU).mono ?_); rintro e w' ⟨rfl, rfl⟩) | (go_at_call 76; (with_reducible refine (l04Value_is _ hB0 _ HX.out _).mono ?_); rintro e w' ⟨rfl, rfl⟩) | (go_at_call 64; (with_reducible refine (l18Throw_is _ _ _ ls i _ hI HF hi _ HT).mono ?_); rintro e w' ⟨rfl, rfl⟩))
          go_loop [8] (fun q => Boxed (∃ k : Nat, 2 ≤ k ∧ k ≤ (gs ls i).size ∧ q = .int .i64 k ∧ LCols ls i k)) (fun q => (gs ls i).size - (intOf q).toNat)
          case atStart => exact ⟨⟨2, by omega, g2, rfl, LCols.two ls i⟩⟩
          case round =>
            obtain ⟨⟨k, hk2, hk, rfl, hcols⟩⟩ := hrel
            have HCO := Lib.hid hcols
            clear hcols
            by_cases hlt : k < (gs ls i).size
            · have hki : (k : Int) < (gs ls i).size := by omega
              have c5 := HC.out i hi
              have hbi := bt_eq hlt
              have HNO : Hid (¬ lcol ls i k → lrt ls i = false) := Lib.hid (fun h => lrt_col h hlt hk2)
              have HGI : Hid (gs ls i = gs ls i) := rfl
              go_wp2
              go_loop [10, 9] (fun p bb => ∃ j : Nat, j ≤ i ∧ p = .int .i64 j ∧ bb = .bool (bef ls j k)) (fun p _ => i - (intOf p).toNat)
              case atStart => exact ⟨0, by omega, rfl, by rw [bef_zero]⟩
              case round =>
                obtain ⟨j, hj, rfl, rfl⟩ := hrel
                by_cases hjl : j < i
                · have hji : (j : Int) < i := by omega
                  have hjn : (j : Int) < n := by omega
                  have c6 := HC.out j (by omega)
                  obtain ⟨r1, _⟩ := HROW.out j (by omega)
                  have hkj : k < (gs ls j).size := by omega
                  have hkji : (k : Int) < (gs ls j).size := by omega
                  have hbk := bt_eq hkj
                  cases hbf : bef ls j k
                  · by_cases h1 : bt (gs ls j) k = 42
                    · have HR : Hid (bef ls (j + 1) k = true) := bef_hit h1
                      have e1 : ((((gs ls j)[k].toNat : Nat) : Int) == 42) = true := by rw [hbk, h1]; rfl
                      clear hbk h1 hbf
                      generalize gs ls j = t at *
                      go_wp2
                      go_round
                      case rel => exact ⟨j + 1, by omega, by go_num, by rw [HR.out]⟩
                      case measure => simp [intOf]; omega
                    · have HR : Hid (bef ls (j + 1) k = false) := by show _ = _; rw [bef_miss h1, hbf]
                      have e1 : ((((gs ls j)[k].toNat : Nat) : Int) == 42) = false := by rw [hbk]; simp; omega
                      clear hbk h1 hbf
                      generalize gs ls j = t at *
                      go_wp2
                      go_round
                      case rel => exact ⟨j + 1, by omega, by go_num, by rw [HR.out]⟩
                      case measure => simp [intOf]; omega
                  · have HR : Hid (bef ls (j + 1) k = true) := bef_kept hbf
                    clear hbk hbf
                    generalize gs ls j = t at *
                    go_wp2
                    go_round
                    case rel => exact ⟨j + 1, by omega, by go_num, by rw [HR.out]⟩
                    case measure => simp [intOf]; omega
                · obtain rfl : j = i := by omega
                  have c7 := HC.out j hi
                  by_cases h1 : bt (gs ls j) k = 124
                  · have e1 : ((((gs ls j)[k].toNat : Nat) : Int) == 124) = true := by rw [hbi, h1]; rfl
                    have e2 : ((((gs ls j)[k].toNat : Nat) : Int) == 46) = false := by rw [hbi, h1]; rfl
                    cases hbf : bef ls j k
                    · have HR : Hid (lrt ls j = false) := HNO.out (fun a => by have := a.1 h1; rw [hbf] at this; cases this)
                      clear hbi h1 hbf
                      generalize gs ls j = t at *
                      go_wp2
                      go_ret
                      exact ⟨ret_bool HR.out.symm, rfl⟩
                    · have HR : Hid (LCols ls j (k + 1)) := HCO.out.succ ⟨fun _ => hbf, fun a => by omega⟩
                      clear hbi h1 hbf
                      have HG := Lib.hid g2
                      go_wp2
                      go_round
                      case rel => first | exact ⟨⟨k + 1, by omega, by omega, by go_num, HR.out⟩⟩ | ((repeat apply Exists.intro); exact ⟨⟨⟨k + 1, by omega, by omega, by go_num, HR.out⟩⟩, rfl⟩)
                      case measure => simp [intOf]; omega
                  · have e1 : ((((gs ls j)[k].toNat : Nat) : Int) == 124) = false := by rw [hbi]; simp; omega
                    by_cases h3 : bt (gs ls j) k = 46
                    · have e2 : ((((gs ls j)[k].toNat : Nat) : Int) == 46) = true := by rw [hbi, h3]; rfl
                      cases hbf : bef ls j k
                      · have HR : Hid (LCols ls j (k + 1)) := HCO.out.succ ⟨fun a => by omega, fun _ => hbf⟩
                        clear hbi h1 h3 hbf
                        go_wp2
                        go_round
                        case rel => first | exact ⟨⟨k + 1, by omega, by omega, by go_num, HR.out⟩⟩ | ((repeat apply Exists.intro); exact ⟨⟨⟨k + 1, by omega, by omega, by go_num, HR.out⟩⟩, rfl⟩)
                        case measure => simp [intOf]; omega
                      · have HR : Hid (lrt ls j = false) := HNO.out (fun a => by have := a.2 h3; rw [hbf] at this; cases this)
                        clear hbi h1 h3 hbf
                        go_wp2
                        go_ret
                        exact ⟨ret_bool HR.out.symm, rfl⟩
                    · have e2 : ((((gs ls j)[k].toNat : Nat) : Int) == 46) = false := by rw [hbi]; simp; omega
                      have HR : Hid (LCols ls j (k + 1)) := HCO.out.succ ⟨fun a => by omega, fun a => by omega⟩
                      clear hbi h1 h3
                      go_wp2
                      go_round
                      case rel => first | exact ⟨⟨k + 1, by omega, by omega, by go_num, HR.out⟩⟩ | ((repeat apply Exists.intro); exact ⟨⟨⟨k + 1, by omega, by omega, by go_num, HR.out⟩⟩, rfl⟩)
                      case measure => simp [intOf]; omega
            · obtain rfl : k = (gs ls i).size := by omega
              have HR : Hid (lrt ls i = true) := HY.out HCO.out
              go_wp2
              go_ret
              exact ⟨ret_bool HR.out.symm, rfl⟩
      · have ht0 : 0 ≤ t := by omega
        have ht1 : 0 < t := by omega
        have ht2 : ¬ t < 0 := by omega
        by_cases hq : t = d
        · subst hq
          have HY : Hid (LCols ls i (gs ls i).size → lrt ls i = true) := HYH.out ⟨by omega, by omega, by omega, by omega⟩
          go_wp2_with (first | (go_at_call 87; (with_reducible refine (l18Star_is _ _ g2 g3 _ HU).mono ?_); rintro e w' ⟨rfl, rfl⟩) | (go_at_call 76; (with_reducible refine (l04Value_is _ hB0 _ HX.out _).mono ?_); rintro e w' ⟨rfl, rfl⟩) | (go_at_call 64; (with_reducible refine (l18Throw_is _ _ _ ls i _ hI HF hi _ HT).mono ?_); rintro e w' ⟨rfl, rfl⟩))
          go_loop [8] (fun q => Boxed (∃ k : Nat, 2 ≤ k ∧ k ≤ (gs ls i).size ∧ q = .int .i64 k ∧ LCols ls i k)) (fun q => (gs ls i).size - (intOf q).toNat)
          case atStart => exact ⟨⟨2, by omega, g2, rfl, LCols.two ls i⟩⟩
          case round =>
            obtain ⟨⟨k, hk2, hk, rfl, hcols⟩⟩ := hrel
            have HCO := Lib.hid hcols
            clear hcols
            by_cases hlt : k < (gs ls i).size
            · have hki : (k : Int) < (gs ls i).size := by omega
              have c5 := HC.out i hi
              have hbi := bt_eq hlt
              have HNO : Hid (¬ lcol ls i k → lrt ls i = false) := Lib.hid (fun h => lrt_col h hlt hk2)
              have HGI : Hid (gs ls i = gs ls i) := rfl
              go_wp2
              go_loop [10, 9] (fun p bb => ∃ j : Nat, j ≤ i ∧ p = .int .i64 j ∧ bb = .bool (bef ls j k)) (fun p _ => i - (intOf p).toNat)
              case atStart => exact ⟨0, by omega, rfl, by rw [bef_zero]⟩
              case round =>
                obtain ⟨j, hj, rfl, rfl⟩ := hrel
                by_cases hjl : j < i
                · have hji : (j : Int) < i := by omega
                  have hjn : (j : Int) < n := by omega
                  have c6 := HC.out j (by omega)
                  obtain ⟨r1, _⟩ := HROW.out j (by omega)
                  have hkj : k < (gs ls j).size := by omega
                  have hkji : (k : Int) < (gs ls j).size := by omega
                  have hbk := bt_eq hkj
                  cases hbf : bef ls j k
                  · by_cases h1 : bt (gs ls j) k = 42
                    · have HR : Hid (bef ls (j + 1) k = true) := bef_hit h1
                      have e1 : ((((gs ls j)[k].toNat : Nat) : Int) == 42) = true := by rw [hbk, h1]; rfl
                      clear hbk h1 hbf
                      generalize gs ls j = t at *
                      go_wp2
                      go_round
                      case rel => exact ⟨j + 1, by omega, by go_num, by rw [HR.out]⟩
                      case measure => simp [intOf]; omega
                    · have HR : Hid (bef ls (j + 1) k = false) := by show _ = _; rw [bef_miss h1, hbf]
                      have e1 : ((((gs ls j)[k].toNat : Nat) : Int) == 42) = false := by rw [hbk]; simp; omega
                      clear hbk h1 hbf
                      generalize gs ls j = t at *
                      go_wp2
                      go_round
                      case rel => exact ⟨j + 1, by omega, by go_num, by rw [HR.out]⟩
                      case measure => simp [intOf]; omega
                  · have HR : Hid (bef ls (j + 1) k = true) := bef_kept hbf
                    clear hbk hbf
                    generalize gs ls j = t at *
                    go_wp2
                    go_round
                    case rel => exact ⟨j + 1, by omega, by go_num, by rw [HR.out]⟩
                    case measure => simp [intOf]; omega
                · obtain rfl : j = i := by omega
                  have c7 := HC.out j hi
                  by_cases h1 : bt (gs ls j) k = 124
                  · have e1 : ((((gs ls j)[k].toNat : Nat) : Int) == 124) = true := by rw [hbi, h1]; rfl
                    have e2 : ((((gs ls j)[k].toNat : Nat) : Int) == 46) = false := by rw [hbi, h1]; rfl
                    cases hbf : bef ls j k
                    · have HR : Hid (lrt ls j = false) := HNO.out (fun a => by have := a.1 h1; rw [hbf] at this; cases this)
                      clear hbi h1 hbf
                      generalize gs ls j = t at *
                      go_wp2
                      go_ret
                      exact ⟨ret_bool HR.out.symm, rfl⟩
                    · have HR : Hid (LCols ls j (k + 1)) := HCO.out.succ ⟨fun _ => hbf, fun a => by omega⟩
                      clear hbi h1 hbf
                      have HG := Lib.hid g2
                      go_wp2
                      go_round
                      case rel => first | exact ⟨⟨k + 1, by omega, by omega, by go_num, HR.out⟩⟩ | ((repeat apply Exists.intro); exact ⟨⟨⟨k + 1, by omega, by omega, by go_num, HR.out⟩⟩, rfl⟩)
                      case measure => simp [intOf]; omega
                  · have e1 : ((((gs ls j)[k].toNat : Nat) : Int) == 124) = false := by rw [hbi]; simp; omega
                    by_cases h3 : bt (gs ls j) k = 46
                    · have e2 : ((((gs ls j)[k].toNat : Nat) : Int) == 46) = true := by rw [hbi, h3]; rfl
                      cases hbf : bef ls j k
                      · have HR : Hid (LCols ls j (k + 1)) := HCO.out.succ ⟨fun a => by omega, fun _ => hbf⟩
                        clear hbi h1 h3 hbf
                        go_wp2
                        go_round
                        case rel => first | exact ⟨⟨k + 1, by omega, by omega, by go_num, HR.out⟩⟩ | ((repeat apply Exists.intro); exact ⟨⟨⟨k + 1, by omega, by omega, by go_num, HR.out⟩⟩, rfl⟩)
                        case measure => simp [intOf]; omega
                      · have HR : Hid (lrt ls j = false) := HNO.out (fun a => by have := a.2 h3; rw [hbf] at this; cases this)
                        clear hbi h1 h3 hbf
                        go_wp2
                        go_ret
                        exact ⟨ret_bool HR.out.symm, rfl⟩
                    · have e2 : ((((gs ls j)[k].toNat : Nat) : Int) == 46) = false := by rw [hbi]; simp; omega
                      have HR : Hid (LCols ls j (k + 1)) := HCO.out.succ ⟨fun a => by omega, fun a => by omega⟩
                      clear hbi h1 h3
                      go_wp2
                      go_round
                      case rel => first | exact ⟨⟨k + 1, by omega, by omega, by go_num, HR.out⟩⟩ | ((repeat apply Exists.intro); exact ⟨⟨⟨k + 1, by omega, by omega, by go_num, HR.out⟩⟩, rfl⟩)
                      case measure => simp [intOf]; omega
            · obtain rfl : k = (gs ls i).size := by omega
              have HR : Hid (lrt ls i = true) := HY.out HCO.out
              go_wp2
              go_ret
              exact ⟨ret_bool HR.out.symm, rfl⟩
        · have hqd : (t != d) = true := by simp; omega
          have HR : Hid (lrt ls i = false) := HNH.out (fun a => by obtain ⟨a1, a2, a3, a4⟩ := a; omega)
          go_wp2_with (first | (go_at_call 87; (with_reducible refine (l18Star_is _ _ g2 g3 _ HU).mono ?_); rintro e w' ⟨rfl, rfl⟩) | (go_at_call 76; (with_reducible refine (l04Value_is _ hB0 _ HX.out _).mono ?_); rintro e w' ⟨rfl, rfl⟩) | (go_at_call 64; (with_reducible refine (l18Throw_is _ _ _ ls i _ hI HF hi _ HT).mono ?_); rintro e w' ⟨rfl, rfl⟩))
          go_ret
          exact ⟨ret_bool HR.out.symm, rfl⟩
  · have hm1 : (1 : Int) < m := by omega
    obtain rfl := hum.2.2 hm
    have HR : Hid (lrt ls i = false) := HNH.out (fun a => by obtain ⟨a1, a2, a3, a4⟩ := a; omega)
    go_wp2_with (first | (go_at_call 87; (with_reducible refine (l18Star_is _ _ g2 g3 _ HU).mono ?_); rintro e w' ⟨rfl, rfl⟩) | (go_at_call 76; (with_reducible refine (l04Value_is _ hB0 _ HX.out _).mono ?_); rintro e w' ⟨rfl, rfl⟩) | (go_at_call 64; (with_reducible refine (l18Throw_is _ _ _ ls i _ hI HF hi _ HT).mono ?_); rintro e w' ⟨rfl, rfl⟩))
    go_ret
    exact ⟨ret_bool HR.out.symm, rfl⟩

theorem l18Line_is (A : Option Addr) (n c : Nat) (ls : List ByteArray) (i : Nat) (w : World) (hI : Strs w A n ls) (hf : Hid (lfm ls = true)) (hi : i < n) (v : Bool) (h : lrt ls i = v) :
    Calls Try.prog 62 #[.slice A n c, .int .i64 i] w fun e w' => e = .returned (.bool v) ∧ w = w' := by
  subst h
  exact l18Line_any A n c ls i w hI hf.out hi
set_option maxHeartbeats 8000000 in
set_option maxRecDepth 100000 in
theorem isRight_any (A : Option Addr) (n c : Nat) (ls : List ByteArray) (i : Nat) (w : World) (hI : Strs w A n ls) (hf : lfm ls = true) (hi : i < n) (hcap : n ≤ c) :
    Calls Try.prog 61 #[.slice A n c, .int .i64 i] w fun e w' => e = .returned (.bool (lrt ls i)) ∧ Ext w w' := by
  have HF := Lib.hid hf
  obtain ⟨hrow, h60⟩ := lfm_iff hf
  rw [hI.len] at hrow h60
  have HROW := Lib.hid hrow
  have HL := Lib.hid hI.len
  clear hrow hf
  obtain ⟨b, off, hA, hb, hcell⟩ := hI.at_ (by omega)
  subst hA
  have c0 := hcell i hi
  have HC := Lib.hid hcell
  clear hcell
  have hii : (i : Int) < n := by omega
  obtain ⟨g1, g2, g3, g4, _⟩ := HROW.out i hi
  have hic : (i : Int) ≤ c := by omega
  have hz0 : (0 : Nat) < (gs ls i).size := by omega
  have hz0i : (0 : Int) < (gs ls i).size := by omega
  have hll := stl_len (gs ls i) (gs ls i).size
  have htb := told_bd ls (i := i) (by rw [HL.out]; exact hi)
  rw [HL.out] at htb
  have hx0 := bt_eq hz0
  have HX : Hid (hxv (gs ls i)[0].toNat = hxv (bt (gs ls i) 0)) := by show _ = _; rw [hx0]
  have hB0 : (gs ls i)[0].toNat ≤ 255 := by rw [hx0]; exact bt_bd _ 0
  clear hx0
  have hxb := hxv_bd (bt (gs ls i) 0)
  have HNH : Hid (¬ lhead (stl (gs ls i) (gs ls i).size).length (hxv (bt (gs ls i) 0)) (told ls i) i n → lrt ls i = false) := Lib.hid (fun h => lrt_head (by rw [HL.out]; exact h))
  have HYH : Hid (lhead (stl (gs ls i) (gs ls i).size).length (hxv (bt (gs ls i) 0)) (told ls i) i n → LCols ls i (gs ls i).size → lrt ls i = true) := Lib.hid (fun h => lrt_yes (by rw [HL.out]; exact h))
  have hT : (stl (gs ls i) (gs ls i).size).length = 0 ∧ told ls i = 0 ∨ (stl (gs ls i) (gs ls i).size).length = 1 ∧ (told ls i = -1 ∨ 1 ≤ told ls i) ∨ 2 ≤ (stl (gs ls i) (gs ls i).size).length := by
    rcases stl_cases (gs ls i) with h | ⟨k, h, _⟩ | h
    · exact .inl ⟨by rw [h]; rfl, told_none h⟩
    · refine .inr (.inl ⟨by rw [h]; rfl, ?_⟩)
      rw [told_one h]
      rcases seek_bd (fun j => decide (bt (gs ls j) k = 42)) (i + 1) (ls.length - (i + 1)) (Nat.lt_succ_self i) with h | h
      · exact .inl h
      · exact .inr h.1
    · exact .inr (.inr h)
  obtain ⟨m, hm⟩ : ∃ m, (stl (gs ls i) (gs ls i).size).length = m := ⟨_, rfl⟩
  have HM := Lib.hid hm
  obtain ⟨d, hd⟩ : ∃ d, hxv (bt (gs ls i) 0) = d := ⟨_, rfl⟩
  obtain ⟨t, ht⟩ : ∃ t, told ls i = t := ⟨_, rfl⟩
  have HT := Lib.hid ht
  rw [hd] at HX
  rw [hm, hd, ht] at HNH HYH
  rw [hm] at hT hll
  rw [ht] at hT htb
  rw [hd] at g4 hxb
  clear hm hd ht
  go_enter Try.func61, Try.ntmps61
  go_upto_region 3 with fail
  go_cut [6, 7, 8] (fun s6 s7 s8 wx => s6 = .int .i64 m ∧ s7 = .int .i64 d ∧ s8 = .int .i64 t ∧ Ext w wx)
  case first =>
    go_region_held3 (fun _ => True) (trivial)
      (first | (go_at_call 86; (with_reducible refine (starsOf_any _ _ g2 g3).mono ?_); rw [HM.out]; rintro e w1 ⟨A1, c1, rfl, ho⟩; have hx1 := ho.ext) | (go_at_call 74; (with_reducible refine (hexOf_is _ _ HX.out _).mono ?_); rintro e w' ⟨rfl, rfl⟩) | (go_at_call 63; (with_reducible refine (toldThrow_is _ _ _ ls i _ (hI.ext (by with_reducible (repeat (first | exact Ext.refl _ | apply Ext.drewN | apply Ext.drew | apply Ext.alloc | (refine Ext.set ?_ (by first | (simp; done) | (simp; omega) | omega) _) | (refine Ext.trans ?_ (by assumption)))))) HF hi _ HT).mono ?_); rintro e w2 ⟨rfl, hx2⟩))
    all_goals (go_wp2_with fail; go_meet)
    all_goals exact ⟨rfl, rfl, rfl, (by with_reducible (repeat (first | exact Ext.refl _ | apply Ext.drewN | apply Ext.drew | apply Ext.alloc | (refine Ext.set ?_ (by first | (simp; done) | (simp; omega) | omega) _) | (refine Ext.trans ?_ (by assumption)))))⟩
  case rest =>
    obtain ⟨rfl, rfl, rfl, hx1⟩ := hcut
    rcases hT with ⟨hm, ht⟩ | ⟨hm, ht⟩ | hm
    · subst hm ht
      by_cases hd : d = 0
      · subst hd
        have HY : Hid (LCols ls i (gs ls i).size → lrt ls i = true) := HYH.out ⟨by omega, by omega, by omega, by omega⟩
        go_wp2
        go_loopw [9] (fun q wr => Boxed (∃ k : Nat, 2 ≤ k ∧ k ≤ (gs ls i).size ∧ q = .int .i64 k ∧ LCols ls i k ∧ Ext w wr)) (fun q _ => (gs ls i).size - (intOf q).toNat)
        case atStart => exact ⟨⟨2, by omega, g2, rfl, LCols.two ls i, hx1⟩⟩
        case round =>
          obtain ⟨⟨k, hk2, hk, rfl, hcols, hx5⟩⟩ := hrel
          have HCO := Lib.hid hcols
          clear hcols
          by_cases hlt : k < (gs ls i).size
          · have hki : (k : Int) < (gs ls i).size := by omega
            have c5 := hx5.cell hb (HC.out i hi)
            have hbi := bt_eq hlt
            have HNO : Hid (¬ lcol ls i k → lrt ls i = false) := Lib.hid (fun h => lrt_col h hlt hk2)
            have HGI : Hid (gs ls i = gs ls i) := rfl
            go_wp2
            go_loopw [66, 10] (fun p bb wr => ∃ j : Nat, j ≤ i ∧ p = .int .i64 j ∧ bb = .bool (bef ls j k) ∧ Ext w wr) (fun p _ _ => i - (intOf p).toNat)
            case atStart => exact ⟨0, by omega, rfl, by rw [bef_zero], hx5⟩
            case round =>
              obtain ⟨j, hj, rfl, rfl, hx6⟩ := hrel
              by_cases hjl : j < i
              · have hji : (j : Int) < i := by omega
                have hjn : (j : Int) < n := by omega
                have c6 := hx6.cell hb (HC.out j (by omega))
                obtain ⟨r1, _⟩ := HROW.out j (by omega)
                have hkj : k < (gs ls j).size := by omega
                have hkji : (k : Int) < (gs ls j).size := by omega
                have hbk := bt_eq hkj
                cases hbf : bef ls j k
                · by_cases h1 : bt (gs ls j) k = 42
                  · have HR : Hid (bef ls (j + 1) k = true) := bef_hit h1
                    have e1 : ((((gs ls j)[k].toNat : Nat) : Int) == 42) = true := by rw [hbk, h1]; rfl
                    clear hbk h1 hbf
                    generalize gs ls j = t at *
                    go_wp2
                    go_roundw
                    case rel => exact ⟨j + 1, by omega, by go_num, by rw [HR.out], hx6⟩
                    case measure => simp [intOf]; omega
                  · have HR : Hid (bef ls (j + 1) k = false) := by show _ = _; rw [bef_miss h1, hbf]
                    have e1 : ((((gs ls j)[k].toNat : Nat) : Int) == 42) = false := by rw [hbk]; simp; omega
                    clear hbk h1 hbf
                    generalize gs ls j = t at *
                    go_wp2
                    go_roundw
                    case rel => exact ⟨j + 1, by omega, by go_num, by rw [HR.out], hx6⟩
                    case measure => simp [intOf]; omega
                · have HR : Hid (bef ls (j + 1) k = true) := bef_kept hbf
                  clear hbk hbf
                  generalize gs ls j = t at *
                  go_wp2
                  go_roundw
                  case rel => exact ⟨j + 1, by omega, by go_num, by rw [HR.out], hx6⟩
                  case measure => simp [intOf]; omega
              · obtain rfl : j = i := by omega
                have c7 := hx6.cell hb (HC.out j hi)
                by_cases h1 : bt (gs ls j) k = 124
                · have e1 : ((((gs ls j)[k].toNat : Nat) : Int) == 124) = true := by rw [hbi, h1]; rfl
                  have e2 : ((((gs ls j)[k].toNat : Nat) : Int) == 46) = false := by rw [hbi, h1]; rfl
                  cases hbf : bef ls j k
                  · have HR : Hid (lrt ls j = false) := HNO.out (fun a => by have := a.1 h1; rw [hbf] at this; cases this)
                    clear hbi h1 hbf
                    generalize gs ls j = t at *
                    go_wp2
                    go_ret
                    exact ⟨ret_bool HR.out.symm, hx6⟩
                  · have HR : Hid (LCols ls j (k + 1)) := HCO.out.succ ⟨fun _ => hbf, fun a => by omega⟩
                    clear hbi h1 hbf
                    have HG := Lib.hid g2
                    go_wp2
                    go_roundw
                    case rel => first | exact ⟨⟨k + 1, by omega, by omega, by go_num, HR.out, hx6⟩⟩ | ((repeat apply Exists.intro); exact ⟨⟨⟨k + 1, by omega, by omega, by go_num, HR.out, hx6⟩⟩, rfl⟩)
                    case measure => simp [intOf]; omega
                · have e1 : ((((gs ls j)[k].toNat : Nat) : Int) == 124) = false := by rw [hbi]; simp; omega
                  by_cases h3 : bt (gs ls j) k = 46
                  · have e2 : ((((gs ls j)[k].toNat : Nat) : Int) == 46) = true := by rw [hbi, h3]; rfl
                    cases hbf : bef ls j k
                    · have HR : Hid (LCols ls j (k + 1)) := HCO.out.succ ⟨fun a => by omega, fun _ => hbf⟩
                      clear hbi h1 h3 hbf
                      go_wp2
                      go_roundw
                      case rel => first | exact ⟨⟨k + 1, by omega, by omega, by go_num, HR.out, hx6⟩⟩ | ((repeat apply Exists.intro); exact ⟨⟨⟨k + 1, by omega, by omega, by go_num, HR.out, hx6⟩⟩, rfl⟩)
                      case measure => simp [intOf]; omega
                    · have HR : Hid (lrt ls j = false) := HNO.out (fun a => by have := a.2 h3; rw [hbf] at this; cases this)
                      clear hbi h1 h3 hbf
                      go_wp2
                      go_ret
                      exact ⟨ret_bool HR.out.symm, hx6⟩
                  · have e2 : ((((gs ls j)[k].toNat : Nat) : Int) == 46) = false := by rw [hbi]; simp; omega
                    have HR : Hid (LCols ls j (k + 1)) := HCO.out.succ ⟨fun a => by omega, fun a => by omega⟩
                    clear hbi h1 h3
                    go_wp2
                    go_roundw
                    case rel => first | exact ⟨⟨k + 1, by omega, by omega, by go_num, HR.out, hx6⟩⟩ | ((repeat apply Exists.intro); exact ⟨⟨⟨k + 1, by omega, by omega, by go_num, HR.out, hx6⟩⟩, rfl⟩)
                    case measure => simp [intOf]; omega
          · obtain rfl : k = (gs ls i).size := by omega
            have HR : Hid (lrt ls i = true) := HY.out HCO.out
            go_wp2
            go_ret
            exact ⟨ret_bool HR.out.symm, hx5⟩
      · have hdz : (d == 0) = false := by simp; omega
        have HR : Hid (lrt ls i = false) := HNH.out (fun a => by obtain ⟨a1, a2, a3, a4⟩ := a; omega)
        go_wp2
        go_ret
        exact ⟨ret_bool HR.out.symm, hx1⟩
    · subst hm
      by_cases hd : d = 0
      · subst hd
        have HR : Hid (lrt ls i = false) := HNH.out (fun a => by obtain ⟨a1, a2, a3, a4⟩ := a; omega)
        go_wp2
        go_ret
        exact ⟨ret_bool HR.out.symm, hx1⟩
      · have hdz : (d == 0) = false := by simp; omega
        rcases ht with ht | ht
        · subst ht
          by_cases hq : (i : Int) + d < n
          · have HR : Hid (lrt ls i = false) := HNH.out (fun a => by obtain ⟨a1, a2, a3, a4⟩ := a; omega)
            go_wp2
            go_ret
            exact ⟨ret_bool HR.out.symm, hx1⟩
          · have HY : Hid (LCols ls i (gs ls i).size → lrt ls i = true) := HYH.out ⟨by omega, by omega, by omega, by omega⟩
            go_wp2
            go_loopw [9] (fun q wr => Boxed (∃ k : Nat, 2 ≤ k ∧ k ≤ (gs ls i).size ∧ q = .int .i64 k ∧ LCols ls i k ∧ Ext w wr)) (fun q _ => (gs ls i).size - (intOf q).toNat)
            case atStart => exact ⟨⟨2, by omega, g2, rfl, LCols.two ls i, hx1⟩⟩
            case round =>
              obtain ⟨⟨k, hk2, hk, rfl, hcols, hx5⟩⟩ := hrel
              have HCO := Lib.hid hcols
              clear hcols
              by_cases hlt : k < (gs ls i).size
              · have hki : (k : Int) < (gs ls i).size := by omega
                have c5 := hx5.cell hb (HC.out i hi)
                have hbi := bt_eq hlt
                have HNO : Hid (¬ lcol ls i k → lrt ls i = false) := Lib.hid (fun h => lrt_col h hlt hk2)
                have HGI : Hid (gs ls i = gs ls i) := rfl
                go_wp2
                go_loopw [66, 10] (fun p bb wr => ∃ j : Nat, j ≤ i ∧ p = .int .i64 j ∧ bb = .bool (bef ls j k) ∧ Ext w wr) (fun p _ _ => i - (intOf p).toNat)
                case atStart => exact ⟨0, by omega, rfl, by rw [bef_zero], hx5⟩
                case round =>
                  obtain ⟨j, hj, rfl, rfl, hx6⟩ := hrel
                  by_cases hjl : j < i
                  · have hji : (j : Int) < i := by omega
                    have hjn : (j : Int) < n := by omega
                    have c6 := hx6.cell hb (HC.out j (by omega))
                    obtain ⟨r1, _⟩ := HROW.out j (by omega)
                    have hkj : k < (gs ls j).size := by omega
                    have hkji : (k : Int) < (gs ls j).size := by omega
                    have hbk := bt_eq hkj
                    cases hbf : bef ls j k
                    · by_cases h1 : bt (gs ls j) k = 42
                      · have HR : Hid (bef ls (j + 1) k = true) := bef_hit h1
                        have e1 : ((((gs ls j)[k].toNat : Nat) : Int) == 42) = true := by rw [hbk, h1]; rfl
                        clear hbk h1 hbf
                        generalize gs ls j = t at *
                        go_wp2
                        go_roundw
                        case rel => exact ⟨j + 1, by omega, by go_num, by rw [HR.out], hx6⟩
                        case measure => simp [intOf]; omega
                      · have HR : Hid (bef ls (j + 1) k = false) := by show _ = _; rw [bef_miss h1, hbf]
                        have e1 : ((((gs ls j)[k].toNat : Nat) : Int) == 42) = false := by rw [hbk]; simp; omega
                        clear hbk h1 hbf
                        generalize gs ls j = t at *
                        go_wp2
                        go_roundw
                        case rel => exact ⟨j + 1, by omega, by go_num, by rw [HR.out], hx6⟩
                        case measure => simp [intOf]; omega
                    · have HR : Hid (bef ls (j + 1) k = true) := bef_kept hbf
                      clear hbk hbf
                      generalize gs ls j = t at *
                      go_wp2
                      go_roundw
                      case rel => exact ⟨j + 1, by omega, by go_num, by rw [HR.out], hx6⟩
                      case measure => simp [intOf]; omega
                  · obtain rfl : j = i := by omega
                    have c7 := hx6.cell hb (HC.out j hi)
                    by_cases h1 : bt (gs ls j) k = 124
                    · have e1 : ((((gs ls j)[k].toNat : Nat) : Int) == 124) = true := by rw [hbi, h1]; rfl
                      have e2 : ((((gs ls j)[k].toNat : Nat) : Int) == 46) = false := by rw [hbi, h1]; rfl
                      cases hbf : bef ls j k
                      · have HR : Hid (lrt ls j = false) := HNO.out (fun a => by have := a.1 h1; rw [hbf] at this; cases this)
                        clear hbi h1 hbf
                        generalize gs ls j = t at *
                        go_wp2
                        go_ret
                        exact ⟨ret_bool HR.out.symm, hx6⟩
                      · have HR : Hid (LCols ls j (k + 1)) := HCO.out.succ ⟨fun _ => hbf, fun a => by omega⟩
                        clear hbi h1 hbf
                        have HG := Lib.hid g2
                        go_wp2
                        go_roundw
                        case rel => first | exact ⟨⟨k + 1, by omega, by omega, by go_num, HR.out, hx6⟩⟩ | ((repeat apply Exists.intro); exact ⟨⟨⟨k + 1, by omega, by omega, by go_num, HR.out, hx6⟩⟩, rfl⟩)
                        case measure => simp [intOf]; omega
                    · have e1 : ((((gs ls j)[k].toNat : Nat) : Int) == 124) = false := by rw [hbi]; simp; omega
                      by_cases h3 : bt (gs ls j) k = 46
                      · have e2 : ((((gs ls j)[k].toNat : Nat) : Int) == 46) = true := by rw [hbi, h3]; rfl
                        cases hbf : bef ls j k
                        · have HR : Hid (LCols ls j (k + 1)) := HCO.out.succ ⟨fun a => by omega, fun _ => hbf⟩
                          clear hbi h1 h3 hbf
                          go_wp2
                          go_roundw
                          case rel => first | exact ⟨⟨k + 1, by omega, by omega, by go_num, HR.out, hx6⟩⟩ | ((repeat apply Exists.intro); exact ⟨⟨⟨k + 1, by omega, by omega, by go_num, HR.out, hx6⟩⟩, rfl⟩)
                          case measure => simp [intOf]; omega
                        · have HR : Hid (lrt ls j = false) := HNO.out (fun a => by have := a.2 h3; rw [hbf] at this; cases this)
                          clear hbi h1 h3 hbf
                          go_wp2
                          go_ret
                          exact ⟨ret_bool HR.out.symm, hx6⟩
                      · have e2 : ((((gs ls j)[k].toNat : Nat) : Int) == 46) = false := by rw [hbi]; simp; omega
                        have HR : Hid (LCols ls j (k + 1)) := HCO.out.succ ⟨fun a => by omega, fun a => by omega⟩
                        clear hbi h1 h3
                        go_wp2
                        go_roundw
                        case rel => first | exact ⟨⟨k + 1, by omega, by omega, by go_num, HR.out, hx6⟩⟩ | ((repeat apply Exists.intro); exact ⟨⟨⟨k + 1, by omega, by omega, by go_num, HR.out, hx6⟩⟩, rfl⟩)
                        case measure => simp [intOf]; omega
              · obtain rfl : k = (gs ls i).size := by omega
                have HR : Hid (lrt ls i = true) := HY.out HCO.out
                go_wp2
                go_ret
                exact ⟨ret_bool HR.out.symm, hx5⟩
        · have ht0 : 0 ≤ t := by omega
          have ht1 : 0 < t := by omega
          have ht2 : ¬ t < 0 := by omega
          by_cases hq : t = d
          · subst hq
            have HY : Hid (LCols ls i (gs ls i).size → lrt ls i = true) := HYH.out ⟨by omega, by omega, by omega, by omega⟩
            go_wp2
            go_loopw [9] (fun q wr => Boxed (∃ k : Nat, 2 ≤ k ∧ k ≤ (gs ls i).size ∧ q = .int .i64 k ∧ LCols ls i k ∧ Ext w wr)) (fun q _ => (gs ls i).size - (intOf q).toNat)
            case atStart => exact ⟨⟨2, by omega, g2, rfl, LCols.two ls i, hx1⟩⟩
            case round =>
              obtain ⟨⟨k, hk2, hk, rfl, hcols, hx5⟩⟩ := hrel
              have HCO := Lib.hid hcols
              clear hcols
              by_cases hlt : k < (gs ls i).size
              · have hki : (k : Int) < (gs ls i).size := by omega
                have c5 := hx5.cell hb (HC.out i hi)
                have hbi := bt_eq hlt
                have HNO : Hid (¬ lcol ls i k → lrt ls i = false) := Lib.hid (fun h => lrt_col h hlt hk2)
                have HGI : Hid (gs ls i = gs ls i) := rfl
                go_wp2
                go_loopw [66, 10] (fun p bb wr => ∃ j : Nat, j ≤ i ∧ p = .int .i64 j ∧ bb = .bool (bef ls j k) ∧ Ext w wr) (fun p _ _ => i - (intOf p).toNat)
                case atStart => exact ⟨0, by omega, rfl, by rw [bef_zero], hx5⟩
                case round =>
                  obtain ⟨j, hj, rfl, rfl, hx6⟩ := hrel
                  by_cases hjl : j < i
                  · have hji : (j : Int) < i := by omega
                    have hjn : (j : Int) < n := by omega
                    have c6 := hx6.cell hb (HC.out j (by omega))
                    obtain ⟨r1, _⟩ := HROW.out j (by omega)
                    have hkj : k < (gs ls j).size := by omega
                    have hkji : (k : Int) < (gs ls j).size := by omega
                    have hbk := bt_eq hkj
                    cases hbf : bef ls j k
                    · by_cases h1 : bt (gs ls j) k = 42
                      · have HR : Hid (bef ls (j + 1) k = true) := bef_hit h1
                        have e1 : ((((gs ls j)[k].toNat : Nat) : Int) == 42) = true := by rw [hbk, h1]; rfl
                        clear hbk h1 hbf
                        generalize gs ls j = t at *
                        go_wp2
                        go_roundw
                        case rel => exact ⟨j + 1, by omega, by go_num, by rw [HR.out], hx6⟩
                        case measure => simp [intOf]; omega
                      · have HR : Hid (bef ls (j + 1) k = false) := by show _ = _; rw [bef_miss h1, hbf]
                        have e1 : ((((gs ls j)[k].toNat : Nat) : Int) == 42) = false := by rw [hbk]; simp; omega
                        clear hbk h1 hbf
                        generalize gs ls j = t at *
                        go_wp2
                        go_roundw
                        case rel => exact ⟨j + 1, by omega, by go_num, by rw [HR.out], hx6⟩
                        case measure => simp [intOf]; omega
                    · have HR : Hid (bef ls (j + 1) k = true) := bef_kept hbf
                      clear hbk hbf
                      generalize gs ls j = t at *
                      go_wp2
                      go_roundw
                      case rel => exact ⟨j + 1, by omega, by go_num, by rw [HR.out], hx6⟩
                      case measure => simp [intOf]; omega
                  · obtain rfl : j = i := by omega
                    have c7 := hx6.cell hb (HC.out j hi)
                    by_cases h1 : bt (gs ls j) k = 124
                    · have e1 : ((((gs ls j)[k].toNat : Nat) : Int) == 124) = true := by rw [hbi, h1]; rfl
                      have e2 : ((((gs ls j)[k].toNat : Nat) : Int) == 46) = false := by rw [hbi, h1]; rfl
                      cases hbf : bef ls j k
                      · have HR : Hid (lrt ls j = false) := HNO.out (fun a => by have := a.1 h1; rw [hbf] at this; cases this)
                        clear hbi h1 hbf
                        generalize gs ls j = t at *
                        go_wp2
                        go_ret
                        exact ⟨ret_bool HR.out.symm, hx6⟩
                      · have HR : Hid (LCols ls j (k + 1)) := HCO.out.succ ⟨fun _ => hbf, fun a => by omega⟩
                        clear hbi h1 hbf
                        have HG := Lib.hid g2
                        go_wp2
                        go_roundw
                        case rel => first | exact ⟨⟨k + 1, by omega, by omega, by go_num, HR.out, hx6⟩⟩ | ((repeat apply Exists.intro); exact ⟨⟨⟨k + 1, by omega, by omega, by go_num, HR.out, hx6⟩⟩, rfl⟩)
                        case measure => simp [intOf]; omega
                    · have e1 : ((((gs ls j)[k].toNat : Nat) : Int) == 124) = false := by rw [hbi]; simp; omega
                      by_cases h3 : bt (gs ls j) k = 46
                      · have e2 : ((((gs ls j)[k].toNat : Nat) : Int) == 46) = true := by rw [hbi, h3]; rfl
                        cases hbf : bef ls j k
                        · have HR : Hid (LCols ls j (k + 1)) := HCO.out.succ ⟨fun a => by omega, fun _ => hbf⟩
                          clear hbi h1 h3 hbf
                          go_wp2
                          go_roundw
                          case rel => first | exact ⟨⟨k + 1, by omega, by omega, by go_num, HR.out, hx6⟩⟩ | ((repeat apply Exists.intro); exact ⟨⟨⟨k + 1, by omega, by omega, by go_num, HR.out, hx6⟩⟩, rfl⟩)
                          case measure => simp [intOf]; omega
                        · have HR : Hid (lrt ls j = false) := HNO.out (fun a => by have := a.2 h3; rw [hbf] at this; cases this)
                          clear hbi h1 h3 hbf
                          go_wp2
                          go_ret
                          exact ⟨ret_bool HR.out.symm, hx6⟩
                      · have e2 : ((((gs ls j)[k].toNat : Nat) : Int) == 46) = false := by rw [hbi]; simp; omega
                        have HR : Hid (LCols ls j (k + 1)) := HCO.out.succ ⟨fun a => by omega, fun a => by omega⟩
                        clear hbi h1 h3
                        go_wp2
                        go_roundw
                        case rel => first | exact ⟨⟨k + 1, by omega, by omega, by go_num, HR.out, hx6⟩⟩ | ((repeat apply Exists.intro); exact ⟨⟨⟨k + 1, by omega, by omega, by go_num, HR.out, hx6⟩⟩, rfl⟩)
                        case measure => simp [intOf]; omega
              · obtain rfl : k = (gs ls i).size := by omega
                have HR : Hid (lrt ls i = true) := HY.out HCO.out
                go_wp2
                go_ret
                exact ⟨ret_bool HR.out.symm, hx5⟩
          · have hqd : (t != d) = true := by simp; omega
            have HR : Hid (lrt ls i = false) := HNH.out (fun a => by obtain ⟨a1, a2, a3, a4⟩ := a; omega)
            go_wp2
            go_ret
            exact ⟨ret_bool HR.out.symm, hx1⟩
    · have hm1 : (1 : Int) < m := by omega
      have HR : Hid (lrt ls i = false) := HNH.out (fun a => by obtain ⟨a1, a2, a3, a4⟩ := a; omega)
      go_wp2
      go_ret
      exact ⟨ret_bool HR.out.symm, hx1⟩

theorem isRight_is (A : Option Addr) (n c : Nat) (ls : List ByteArray) (i : Nat) (w : World) (hI : Strs w A n ls) (hf : Hid (lfm ls = true)) (hi : i < n) (hcap : n ≤ c) (v : Bool) (h : lrt ls i = v) :
    Calls Try.prog 61 #[.slice A n c, .int .i64 i] w fun e w' => e = .returned (.bool v) ∧ Ext w w' := by
  subst h
  exact isRight_any A n c ls i w hI hf.out hi hcap
end Go.Proofs.Ytendemigegjbfaa
