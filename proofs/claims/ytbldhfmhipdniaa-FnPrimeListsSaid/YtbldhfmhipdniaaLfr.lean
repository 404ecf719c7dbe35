/- From where a throw came: contract of landsFrom. No condition but the stated bounds. -/
import Derived.Test.YtbldhfmhipdniaaPrc
import Derived.Test.YtbldhfmhipdniaaApp
namespace Go.Proofs.Ytbldhfmhipdniaa
set_option linter.unusedVariables false
set_option linter.unusedSimpArgs false
open Go.RowKit

theorem lnd_mod (xs : List Int) (hn : 0 < xs.length) (c : Int) : lnd xs (c % (xs.length : Int)).toNat = (c + thAt xs c) % (xs.length : Int) := by
  have h0 := Int.emod_nonneg c (show (xs.length : Int) ≠ 0 by omega)
  unfold lnd thAt
  rw [Int.toNat_of_nonneg h0, Int.emod_add_emod]
theorem frm_hit {xs : List Int} (hv : vpat xs = true) {i : Nat} {z : Int} (hi : i < xs.length) (h : lnd xs i = z % (xs.length : Int)) : z - xs[i]?.getD 0 = frm (thAt xs) z := by
  obtain ⟨_, h2, h3⟩ := thr_iff.1 (vpat_thr hv)
  symm
  apply frm_of (thAt_endless hv)
  have hd : (z - (i + xs[i]?.getD 0)) % (xs.length : Int) = 0 := by
    unfold lnd at h
    rw [Int.sub_emod, ← h]
    simp
  obtain ⟨q, hq⟩ := Int.dvd_of_emod_eq_zero hd
  have hb : (z - xs[i]?.getD 0) % (xs.length : Int) = i := by
    rw [show z - xs[i]?.getD 0 = i + (xs.length : Int) * q by omega, Int.add_mul_emod_self_left]
    exact Int.emod_eq_of_lt (by omega) (by omega)
  have ht : thAt xs (z - xs[i]?.getD 0) = xs[i]?.getD 0 := by
    show (xs[((z - xs[i]?.getD 0) % (xs.length : Int)).toNat]?).getD 0 = _
    rw [hb]
    rfl
  omega
theorem frm_found {xs : List Int} (hv : vpat xs = true) (z : Int) : ∃ i, i < xs.length ∧ lnd xs i = z % (xs.length : Int) := by
  obtain ⟨_, h2, h3⟩ := thr_iff.1 (vpat_thr hv)
  have h0 := Int.emod_nonneg (frm (thAt xs) z) (show (xs.length : Int) ≠ 0 by omega)
  have h1 := Int.emod_lt_of_pos (frm (thAt xs) z) (show 0 < (xs.length : Int) by omega)
  refine ⟨(frm (thAt xs) z % (xs.length : Int)).toNat, by omega, ?_⟩
  rw [lnd_mod xs (by omega), frm_add (thAt_endless hv)]
def NoLand (xs : List Int) (z : Int) (k : Nat) : Prop := ∀ j, j < k → lnd xs j ≠ z % (xs.length : Int)
theorem NoLand.succ {xs : List Int} {z : Int} {k : Nat} (h : NoLand xs z k) (hk : lnd xs k ≠ z % (xs.length : Int)) : NoLand xs z (k + 1) := fun j hj => by
  by_cases e : j = k
  · rw [e]; exact hk
  · exact h j (by omega)
set_option maxHeartbeats 1000000 in
theorem landsFrom_any (A : Option Addr) (n c : Nat) (xs : List Int) (z : Int) (w : World) (hI : Ints w A n xs) (hv : vpat xs = true) (hz : -2000000 ≤ z ∧ z ≤ 2000000) :
    Calls Try.prog 98 #[.slice A n c, .int .i64 z] w fun e w' => e = .returned (.int .i64 (frm (thAt xs) z)) ∧ Ext w w' := by
  obtain ⟨hb1, hb2, hb3⟩ := thr_iff.1 (vpat_thr hv)
  have HX := Lib.hid hb1
  have HL := Lib.hid hI.len
  have HV := Lib.hid hv
  rw [hI.len] at hb2 hb3
  have ht := vpat_thr hv
  have HF := Lib.hid (frm_found hv z)
  clear hb1 hv
  obtain ⟨m, hm⟩ : ∃ m, z % (n : Int) = m := ⟨_, rfl⟩
  have HM := Lib.hid hm
  clear hm
  go_enter Try.func98, Try.ntmps98
  go_wp2_with (go_at_call 95; (with_reducible refine (landings_any _ _ _ xs _ hI ht).mono ?_); rintro e w1 ⟨A1, c1, rfl, ho⟩)
  have hJ := ho.ints (n := (lnds xs n).length) rfl (by rw [lnds_len]; omega) (by
    intro y hy
    simp only [lnds, List.mem_map, List.mem_range] at hy
    obtain ⟨i, hi, rfl⟩ := hy
    have := lnd_bd (xs := xs) i (by rw [HL.out]; omega) (by rw [HL.out]; omega)
    omega)
  have hxw := ho.ext
  rw [lnds_len] at hJ ⊢
  go_loop [10, 5, 6] (fun i _ _ => ∃ k : Nat, k ≤ n ∧ i = .int .i64 k ∧ NoLand xs z k) (fun i _ _ => n - (intOf i).toNat)
  case atStart => exact ⟨0, Nat.zero_le _, rfl, fun j h => absurd h (by omega)⟩
  case round =>
    obtain ⟨k, hk, rfl, hno⟩ := hrel
    by_cases hlt : k < n
    · obtain ⟨b, off, rfl, hb, hcell⟩ := (hI.ext hxw).at_ (by omega)
      obtain ⟨b2, off2, rfl, hb2, hcell2⟩ := hJ.at_ (by omega)
      have hc := hcell k hlt
      have hc2 := hcell2 k hlt
      rw [lnds_get hlt] at hc2
      have hbd := HX.out k (by rw [HL.out]; exact hlt)
      clear hcell hcell2
      have HH : Hid (lnd xs k = m → z - xs[k]?.getD 0 = frm (thAt xs) z) := fun h => frm_hit HV.out (by rw [HL.out]; exact hlt) (by rw [HL.out, HM.out]; exact h)
      have HN : Hid (¬ lnd xs k = m → NoLand xs z (k + 1)) := fun h => hno.succ (by rw [HL.out, HM.out]; exact h)
      generalize lnd xs k = l at hc2 HH HN
      by_cases hh : l = m
      · subst hh
        have HR : Hid (z - xs[k]?.getD 0 = frm (thAt xs) z) := HH.out rfl
        go_wp2_with (first | (go_at_call 56; (with_reducible refine (period_any _ _ _ _).mono ?_); rintro e w' ⟨rfl, rfl⟩) | (go_at_call 89; (with_reducible refine (modulo_is _ _ l _ (by omega) (by omega) HM.out).mono ?_); rintro e w' ⟨rfl, rfl⟩))
        go_ret
        exact ⟨ret_int HR.out, hxw⟩
      · have HR : Hid (NoLand xs z (k + 1)) := HN.out hh
        have hne : (l == m) = false := by simpa using hh
        go_wp2_with (first | (go_at_call 56; (with_reducible refine (period_any _ _ _ _).mono ?_); rintro e w' ⟨rfl, rfl⟩) | (go_at_call 89; (with_reducible refine (modulo_is _ _ m _ (by omega) (by omega) HM.out).mono ?_); rintro e w' ⟨rfl, rfl⟩))
        go_round
        case rel => exact ⟨k + 1, by omega, by go_num, HR.out⟩
        case measure => simp [intOf]; omega
    · exfalso
      obtain rfl : k = n := by omega
      obtain ⟨i, hi, hq⟩ := HF.out
      exact hno i (by rw [← HL.out]; exact hi) hq
theorem landsFrom_is (A : Option Addr) (n c : Nat) (xs : List Int) (z : Int) (w : World) (hI : Ints w A n xs) (hv : vpat xs = true) (hz : -2000000 ≤ z ∧ z ≤ 2000000) (f : Int) (hf : frm (thAt xs) z = f) :
    Calls Try.prog 98 #[.slice A n c, .int .i64 z] w fun e w' => e = .returned (.int .i64 f) ∧ Ext w w' := by
  subst hf
  exact landsFrom_any A n c xs z w hI hv hz
end Go.Proofs.Ytbldhfmhipdniaa
