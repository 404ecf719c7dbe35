/- Contracts of fractions: the greatest common divisor, MakeFraction, CompareFractions. No condition but the stated bounds. -/
import Derived.Test.YtbaabghehpcjnaaExt
import Derived.Outline
namespace Go.Proofs.Ytbaabghehpcjnaa
set_option linter.unusedVariables false
set_option linter.unusedSimpArgs false
open Go.RowKit

theorem gcd_step (a b : Int) : Int.gcd b (a % b) = Int.gcd a b := by
  have h := Int.emod_add_mul_ediv a b
  rw [Int.gcd_comm a b]
  conv => rhs; rw [← h]
  simp
theorem gcd_pos {a b : Int} (hb : 0 < b) : 0 < Int.gcd a b := Int.gcd_pos_iff.2 (.inr (by omega))

set_option maxHeartbeats 400000 in
theorem divisor_any (a b : Int) (w : World) (ha : 0 ≤ a) (hb : 0 ≤ b) (ha2 : a ≤ 9223372036854775807) (hb2 : b ≤ 9223372036854775807) :
    Calls Try.prog 58 #[.int .i64 a, .int .i64 b] w fun e w' => e = .returned (.int .i64 (Int.gcd a b)) ∧ Qt w w' := by
  go_enter Try.func58, Try.ntmps58
  go_wp2
  go_loopw [0, 1] (fun u v wr => ∃ x y : Int, u = .int .i64 x ∧ v = .int .i64 y ∧ 0 ≤ x ∧ 0 ≤ y ∧ x ≤ 9223372036854775807 ∧ y ≤ 9223372036854775807 ∧ Hid (Int.gcd x y = Int.gcd a b) ∧ Qt w wr) (fun _ v _ => (intOf v).toNat)
  case atStart => exact ⟨a, b, rfl, rfl, ha, hb, ha2, hb2, rfl, Qt.refl _⟩
  case round =>
    obtain ⟨x, y, rfl, rfl, hx, hy, hx2, hy2, HG, nn, rfl⟩ := hrel
    by_cases h0 : y = 0
    · have e0 : (y != 0) = false := by simp [h0]
      have HF : Hid ((x : Int) = (Int.gcd a b : Int)) := by rw [← HG.out, h0, Int.gcd_zero_right]; show x = _; omega
      have H0 := Lib.hid h0
      clear h0
      go_wp2
      go_ret
      exact ⟨ret_int HF.out, Qt.mk _ _⟩
    · have e0 : (y != 0) = true := by simp [h0]
      have hy' : 1 ≤ y := by omega
      have hm := Int.emod_nonneg x (show y ≠ 0 by omega)
      have hm' := Int.emod_lt_of_pos x (show 0 < y by omega)
      clear h0
      go_wp2
      go_quiet (fail)
      go_wp2
      go_roundw
      case rel => exact ⟨y, x % y, rfl, rfl, by omega, by omega, by omega, by omega, (gcd_step x y).trans HG.out, ⟨nn + nq, by rw [World.drewN_drewN]⟩⟩
      case measure => simp [intOf]; omega
theorem absolute_any (a : Int) (w : World) (h : -9223372036854775807 ≤ a ∧ a ≤ 9223372036854775807) :
    Calls Try.prog 59 #[.int .i64 a] w fun e w' => e = .returned (.int .i64 (a.natAbs : Int)) ∧ w = w' := by
  by_cases h0 : a < 0
  all_goals
    go_enter Try.func59, Try.ntmps59
    go_wp2
    go_ret
    exact ⟨ret_int (by omega), rfl⟩

/-- The numerator and the denominator in lowest terms of n over d, where 0 < d. -/
def fn1 (n d : Int) : Int := n.tdiv (Int.gcd n.natAbs d)
def fd1 (n d : Int) : Int := d / (Int.gcd n.natAbs d)
/-- .. where d is not 0. -/
def fnum (n d : Int) : Int := if d < 0 then fn1 (-n) (-d) else fn1 n d
def fden (n d : Int) : Int := if d < 0 then fd1 (-n) (-d) else fd1 n d
theorem gcd_le (a b : Int) (h : 0 < b) : (Int.gcd a b : Int) ≤ b := by
  have := Int.le_of_dvd h (Int.gcd_dvd_right (a := a) (b := b))
  omega
theorem tdiv_le (n : Int) (g : Nat) : -(n.natAbs : Int) ≤ n.tdiv g ∧ n.tdiv g ≤ (n.natAbs : Int) := by
  have h : (n.tdiv g).natAbs = n.natAbs / g := by rw [Int.natAbs_tdiv]; rfl
  have h2 := Nat.div_le_self n.natAbs g
  omega
theorem ediv_le (d : Int) (g : Nat) (h : 0 ≤ d) (hg : 1 ≤ g) : 0 ≤ d / g ∧ d / g ≤ d := by
  constructor
  · exact Int.ediv_nonneg h (by omega)
  · exact Int.ediv_le_self _ h
theorem divisor_is (a b : Int) (g : Nat) (w : World) (ha : 0 ≤ a) (hb : 0 ≤ b) (ha2 : a ≤ 9223372036854775807) (hb2 : b ≤ 9223372036854775807) (h : Hid (Int.gcd a b = g)) :
    Calls Try.prog 58 #[.int .i64 a, .int .i64 b] w fun e w' => e = .returned (.int .i64 (g : Int)) ∧ Qt w w' := by
  have := h.out
  subst this
  exact divisor_any a b w ha hb ha2 hb2
set_option maxHeartbeats 400000 in
theorem fraction_core (n d m k : Int) (g : Nat) (w : World) (h : -9223372036854775807 ≤ n ∧ n ≤ 9223372036854775807) (hd : -9223372036854775807 ≤ d ∧ d ≤ 9223372036854775807)
    (hmk : (d < 0 ∧ -n = m ∧ -d = k) ∨ (0 < d ∧ n = m ∧ d = k)) (HG : Hid (Int.gcd (m.natAbs : Int) k = g)) (hg1 : 1 ≤ (g : Int)) (hg2 : (g : Int) ≤ 9223372036854775807) :
    Calls Try.prog 41 #[.int .i64 n, .int .i64 d] w fun e w' => e = .returned (.agg #[.int .i64 (m.tdiv g), .int .i64 (k / g)]) ∧ Ext w w' := by
  have hb1 := tdiv_le m g
  have hb2 := ediv_le k g (by omega) (by omega)
  rcases hmk with ⟨hs, hm, hk⟩ | ⟨hs, hm, hk⟩
  all_goals
    go_enter Try.func41, Try.ntmps41
    go_wp2_with (first | (go_at_call 59; (with_reducible refine (absolute_any _ _ (by omega)).mono ?_); rintro e w' ⟨rfl, rfl⟩) | (go_at_call 58; refine (divisor_is _ _ g _ (by omega) (by omega) (by omega) (by omega) HG).mono ?_; rintro e w' ⟨rfl, nq, rfl⟩))
    go_region
    all_goals
      go_wp2
      exact bodyPost_ret (v := .agg #[.int .i64 (m.tdiv g), .int .i64 (k / g)]) (by simp [results, Try.results41, go_sem]) rfl ⟨rfl, (by with_reducible (repeat (first | exact Ext.refl _ | apply Ext.drewN | apply Ext.drew | apply Ext.alloc | (refine Ext.set ?_ (by first | (simp; done) | (simp; omega) | omega) _) | (refine Ext.trans ?_ (by assumption)))))⟩
theorem fraction_any (n d : Int) (w : World) (h : -9223372036854775807 ≤ n ∧ n ≤ 9223372036854775807) (hd : -9223372036854775807 ≤ d ∧ d ≤ 9223372036854775807) (h0 : d ≠ 0) :
    Calls Try.prog 41 #[.int .i64 n, .int .i64 d] w fun e w' => e = .returned (.agg #[.int .i64 (fnum n d), .int .i64 (fden n d)]) ∧ Ext w w' := by
  by_cases hs : d < 0
  · have h1 := gcd_pos (a := ((-n).natAbs : Int)) (b := -d) (by omega)
    have h2 := gcd_le ((-n).natAbs : Int) (-d) (by omega)
    have := fraction_core n d (-n) (-d) _ w h hd (.inl ⟨hs, rfl, rfl⟩) rfl (by omega) (by omega)
    simpa only [fnum, fden, hs, if_true, fn1, fd1] using this
  · have h1 := gcd_pos (a := (n.natAbs : Int)) (b := d) (by omega)
    have h2 := gcd_le (n.natAbs : Int) d (by omega)
    have := fraction_core n d n d _ w h hd (.inr ⟨by omega, rfl, rfl⟩) rfl (by omega) (by omega)
    simpa only [fnum, fden, hs, if_false, fn1, fd1] using this
end Go.Proofs.Ytbaabghehpcjnaa
