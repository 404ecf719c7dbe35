/- Drawn patterns and timings: contracts of text, l02Digit, l02Read, l10Draw, l15Most, l15Draw. No condition but the stated bounds. -/
import Derived.Test.YtbaabghehpcjnaaDrw
import Derived.Test.YtbaabghehpcjnaaTcd
import Derived.Test.YtbaabghehpcjnaaMM
import Derived.Test.YtbaabghehpcjnaaFnf
namespace Go.Proofs.Ytbaabghehpcjnaa
set_option linter.unusedVariables false
set_option linter.unusedSimpArgs false
open Go.RowKit Go.Joins

theorem ints_far {w w' : World} {g : Nat} {A : Option Addr} {n : Nat} {xs : List Int} (h : Ints w A n xs) (k : w.grownBy w' (some g)) (hne : ∀ a, A = some a → a.block ≠ g) : Ints w' A n xs :=
  ⟨h.len, h.small, h.bds, fun hn => by
    obtain ⟨b, off, e, hb, hc⟩ := h.at_ hn
    exact ⟨b, off, e, Nat.lt_of_lt_of_le hb k.size, fun i hi => (grown_cell k hb (hne _ e) _).trans (hc i hi)⟩⟩
set_option maxHeartbeats 1000000 in
theorem text_any (b N : Nat) (w0 w : World) (g : Nat) (A : Option Addr) (n c : Nat) (xs : List Int) (top : Nat) (h : Srd w0 w g A n c xs top) (ht : top ≤ 999999999) (hN : 1 ≤ N ∧ N ≤ 100) (hb : b < w.heap.size) (hne : b ≠ g) (hs : ∀ i, i < N → ∃ s : ByteArray, s.size ≤ 8 ∧ w.cell? ⟨b, i, none⟩ = some (.string s)) :
    Calls Try.prog 62 #[.pointer (some ⟨g, 0, none⟩), .slice (some ⟨b, 0, none⟩) N N] w fun e w' => ∃ s : ByteArray, e = .returned (.string s) ∧ s.size ≤ 8 ∧ Srd w0 w' g A n c xs (top + 2) ∧ w.grownBy w' (some g) := by
  go_enter Try.func62, Try.ntmps62
  go_wp2_with fail
  (with_reducible refine (pick_any N w0 _ g A n c xs top h ht).mono ?_)
  rintro e w1 ⟨x, rfl, hx, hs1, hg1⟩
  obtain ⟨k, rfl⟩ : ∃ k : Nat, x = k := ⟨x.toNat, by omega⟩
  have hkm : k < N := by omega
  obtain ⟨s, hss, hcell⟩ := hs k hkm
  have c1 := (grown_cell hg1 hb hne k).trans hcell
  have hki : (k : Int) < N := by omega
  clear hs hcell
  go_wp2
  go_ret
  exact ⟨s, rfl, hss, hs1, hg1⟩
theorem l02Digit_any (x : Int) (w : World) (hx : 0 ≤ x ∧ x ≤ 255) :
    Calls Try.prog 71 #[.int .u8 x] w fun e w' => ∃ y : Int, e = .returned (.int .i64 y) ∧ (-1 ≤ y ∧ y ≤ 15) ∧ w = w' := by
  by_cases h0 : 48 ≤ x
  · by_cases h1 : x ≤ 57
    · go_enter Try.func71, Try.ntmps71
      go_wp2
      go_ret
      exact ⟨_, rfl, by omega, rfl⟩
    · by_cases h2 : 97 ≤ x
      · by_cases h3 : x ≤ 102
        · go_enter Try.func71, Try.ntmps71
          go_wp2
          go_ret
          exact ⟨_, rfl, by omega, rfl⟩
        · go_enter Try.func71, Try.ntmps71
          go_wp2
          go_ret
          exact ⟨_, rfl, by omega, rfl⟩
      · go_enter Try.func71, Try.ntmps71
        go_wp2
        go_ret
        exact ⟨_, rfl, by omega, rfl⟩
  · have h2 : ¬ 97 ≤ x := by omega
    go_enter Try.func71, Try.ntmps71
    go_wp2
    go_ret
    exact ⟨_, rfl, by omega, rfl⟩
set_option maxHeartbeats 1000000 in
theorem l15Most_low (A : Option Addr) (n c : Nat) (xs : List Int) (bt : Int) (w : World) (hI : Ints w A n xs) (hb1 : ∀ i, i < n → -20 ≤ xs[i]?.getD 0 ∧ xs[i]?.getD 0 ≤ 16) (hn : n ≤ 20) (hbt : 2 ≤ bt ∧ bt ≤ 30) :
    Calls Try.prog 47 #[.slice A n c, .int .i64 bt] w fun e w' => ∃ y : Int, e = .returned (.int .i64 y) ∧ (1 ≤ y ∧ y ≤ 60) ∧ w = w' := by
  have hb1 := Lib.hid hb1
  go_enter Try.func47, Try.ntmps47
  go_wp2_with (first | (go_at_call 65; (with_reducible refine (l00Min_any _ _ _).mono ?_); rintro e w' ⟨rfl, rfl⟩))
  go_loop [5, 6] (fun s i => ∃ (k : Nat) (z : Int), k ≤ n ∧ i = .int .i64 k ∧ s = .int .i64 z ∧ 1 ≤ z ∧ z ≤ 60) (fun _ i => n - (intOf i).toNat)
  case atStart => exact ⟨0, 2 * bt, by omega, rfl, rfl, by omega, by omega⟩
  case round =>
    obtain ⟨k, z, hk, rfl, rfl, hz0, hz1⟩ := hrel
    by_cases hlt : k < n
    · obtain ⟨b, off, hA, hb, hcell⟩ := hI.at_ (by omega)
      first | subst hA | (injection hA with hA; injection hA with hA1 hA2; subst hA1; subst hA2)
      have hc := hcell k hlt
      have hbk := hb1.out k hlt
      have ik : (k : Int) < n := by omega
      clear hcell
      generalize xs[k]?.getD 0 = x at *
      by_cases hx : 0 < x
      · obtain ⟨p, hp⟩ : ∃ p, x * bt = p := ⟨_, rfl⟩
        have h1 := mul_bd (a := x) (b := bt) (A := 16) (B := 30) (by omega) (by omega)
        have h3 := Int.mul_le_mul (show 1 ≤ x by omega) hbt.1 (by omega) (by omega)
        rw [hp] at h1 h3
        have hcm : 1 ≤ cml z (p - 1) ∧ cml z (p - 1) ≤ 60 := by unfold cml; split <;> omega
        have HP := Lib.hid hp
        have hpw : IntKind.i64.wrap (x * bt) = p := by rw [hp]; exact IntWalk.i64_in _ (by omega)
        clear hp
        go_wp2_with (first | (go_at_call 65; (with_reducible refine (l00Min_any _ _ _).mono ?_); rintro e w' ⟨rfl, rfl⟩))
        rw [HP.out] at *
        go_round
        case rel => exact ⟨k + 1, _, by omega, by go_num, rfl, hcm.1, hcm.2⟩
        case measure => simp [intOf]; omega
      · go_wp2_with (first | (go_at_call 65; (with_reducible refine (l00Min_any _ _ _).mono ?_); rintro e w' ⟨rfl, rfl⟩))
        go_round
        case rel => exact ⟨k + 1, z, by omega, by go_num, rfl, hz0, hz1⟩
        case measure => simp [intOf]; omega
    · obtain rfl : k = n := by omega
      go_wp2_with (first | (go_at_call 65; (with_reducible refine (l00Min_any _ _ _).mono ?_); rintro e w' ⟨rfl, rfl⟩))
      go_ret
      exact ⟨z, rfl, ⟨hz0, hz1⟩, rfl⟩
set_option maxHeartbeats 1000000 in
theorem l02Read_any (s : ByteArray) (w : World) (hs : s.size ≤ 8) :
    Calls Try.prog 61 #[.string s] w fun e w' => ∃ (B : Option Addr) (d : Nat) (ys : List Int), e = .returned (.slice B s.size d) ∧ w'.ownsRow w.heap.size 2 1 (.slice B s.size d) s.size (ys.map (Value.int .i64)) ∧ (∀ y ∈ ys, -1 ≤ y ∧ y ≤ 15) ∧ Ext w w' := by
  go_enter Try.func61, Try.ntmps61
  go_wp2
  go_loopw [3, 4] (fun v i wr => ∃ (k : Nat) (ys : List Int), k ≤ s.size ∧ i = .int .i64 k ∧ wr.ownsRow w.heap.size 2 1 v k (ys.map (Value.int .i64)) ∧ (∀ y ∈ ys, -1 ≤ y ∧ y ≤ 15) ∧ Ext w wr) (fun _ i _ => s.size - (intOf i).toNat)
  case atStart => exact ⟨0, [], by omega, rfl, own_new w (Nat.le_refl _), by simp, (by with_reducible (repeat (first | exact Ext.refl _ | apply Ext.drewN | apply Ext.drew | apply Ext.alloc | (refine Ext.set ?_ (by first | (simp; done) | (simp; omega) | omega) _) | (refine Ext.trans ?_ (by assumption)))))⟩
  case round =>
    obtain ⟨k, ys, hk, rfl, hown, hbd, hx⟩ := hrel
    by_cases hlt : k < s.size
    · have hki : (k : Int) < s.size := by omega
      have HB := Lib.hid hbd
      clear hbd
      have hz := hx.size
      have hch : 0 ≤ ((s[k].toNat : Nat) : Int) ∧ ((s[k].toNat : Nat) : Int) ≤ 255 := by have := s[k].toNat_lt; omega
      go_wp2_with fail
      (with_reducible refine (l02Digit_any _ _ hch).mono ?_)
      rintro e w' ⟨y, rfl, hy, rfl⟩
      go_wp2_with (first | (at_builtin; refine appL elInt (by omega) rfl _ _ Try.underlying24 rfl rfl (own_ext hown ((Ext.refl _).alloc _)) (by simp; omega) (by omega) rfl (heap_alloc_new _ _) (ys := [_]) (by rfl) (by rfl) ?_; intro v' w3 hown3 hg4))
      go_roundw
      case rel => exact ⟨k + 1, _, by omega, by go_num, hown3, app_bd HB.out hy, (hx.alloc _).grown hg4 (fun b hb => (World.ownsRow.lt hown b hb).1)⟩
      case measure => simp [intOf]; omega
    · obtain rfl : k = s.size := by omega
      have HT : Hid (∃ (B : Option Addr) (d : Nat) (zs : List Int), Ending.returned u3 = .returned (.slice B s.size d) ∧ wr.ownsRow w.heap.size 2 1 (.slice B s.size d) s.size (zs.map (Value.int .i64)) ∧ (∀ y ∈ zs, -1 ≤ y ∧ y ≤ 15) ∧ Ext w wr) := by
        rcases ownsRow_forms hown with ⟨rfl, h0⟩ | ⟨gg, cap, rfl⟩
        · exact ⟨none, 0, ys, by rw [h0], by rw [h0] at hown ⊢; exact hown, hbd, hx⟩
        · exact ⟨_, _, ys, rfl, hown, hbd, hx⟩
      clear hown
      go_wp2
      go_ret
      exact HT.out
end Go.Proofs.Ytbaabghehpcjnaa
