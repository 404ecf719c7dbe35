/- The walk of laws.FnExactListNecklaces. No condition. -/
import Derived.Test.YtbldhfmhipdniaaLnb
namespace Go.Proofs.Ytbldhfmhipdniaa.fnExactListNecklaces
set_option linter.unusedVariables false
set_option linter.unusedSimpArgs false
open Go.RowKit
set_option maxHeartbeats 8000000 in
set_option maxRecDepth 100000 in
theorem walk (a : Int) (_ha : -9223372036854775808 ≤ a ∧ a ≤ 9223372036854775807) (b : Int) (_hb : -9223372036854775808 ≤ b ∧ b ≤ 9223372036854775807) (c : Int) (_hc : -9223372036854775808 ≤ c ∧ c ≤ 9223372036854775807) (w : World) :
    Calls Try.prog 5 #[.int .i64 a, .int .i64 b, .int .i64 c] w fun e w' => e = .returned (.bool true) ∧ Below w.heap.size w w' := by
  have hs := fun W => specListNecklaces_any a b c W
  have hi := fun W => implListNecklaces_any a b c W
  obtain ⟨hl0, hl1⟩ := lnR_bd a b c
  obtain ⟨L, hL⟩ : ∃ L, (lnR a b c).1 = L := ⟨_, rfl⟩
  obtain ⟨x, hx0⟩ : ∃ x, (lnR a b c).2 = x := ⟨_, rfl⟩
  rw [hL] at hl0 hl1
  rw [hL, hx0] at hs hi
  have HS := Lib.hid hs
  have HI := Lib.hid hi
  have HBD : Hid (bdL L) := fun i hi => ⟨by have := (hl1 i hi).1; omega, (hl1 i hi).2⟩
  have HLL : Hid (∀ i, i < L.length → (ll L i).length ≤ 1048576) := fun i hi => by have := (hl1 i hi).1; omega
  clear hs hi hL hx0 hl1
  go_enter Try.func5, Try.ntmps5
  go_wp2_with fail
  (with_reducible refine (HS.out _).mono ?_)
  rintro e w1 ⟨Aw, cw, rfl, hx_w1, Rw⟩
  have hz_w1 := hx_w1.size
  (try simp at hz_w1)
  have hp_w1 : Ext w w1 := Ext.trans (by with_reducible (repeat (first | exact Ext.refl _ | apply Ext.drewN | apply Ext.drew | apply Ext.alloc | (refine Ext.set ?_ (by first | (simp; done) | (simp; omega) | omega) _) | (refine Ext.trans ?_ (by assumption))))) hx_w1
  have hE_w1 : Ext w w1 := hp_w1
  have Rw_w1 : LRow w1 (w.heap.size) w1.heap.size Aw L.length cw L := Rw
  clear Rw
  have hlw : w.heap.size ≤ w1.heap.size := by omega
  go_wp2_with fail
  (with_reducible refine (HI.out _).mono ?_)
  rintro e w2 ⟨Ag, cg, rfl, hx_w2, Rg⟩
  have hz_w2 := hx_w2.size
  (try simp at hz_w2)
  have hp_w2 : Ext w1 w2 := Ext.trans (by with_reducible (repeat (first | exact Ext.refl _ | apply Ext.drewN | apply Ext.drew | apply Ext.alloc | (refine Ext.set ?_ (by first | (simp; done) | (simp; omega) | omega) _) | (refine Ext.trans ?_ (by assumption))))) hx_w2
  have Rw_w2 := Rw_w1.ext hp_w2
  have hE_w2 : Ext w w2 := hE_w1.trans hp_w2
  have Rg_w2 : LRow w2 (w1.heap.size) w2.heap.size Ag L.length cg L := Rg
  clear Rg
  have hlg : w1.heap.size ≤ w2.heap.size := by omega
  go_wp2_with fail
  (with_reducible refine (eqInt64SS_same _ _ _ _ _ L _ (Rg_w2.lists (by omega) HBD.out) (Rw_w2.lists (by omega) HBD.out)).mono ?_)
  rintro e w3 ⟨rfl, hx_w3⟩
  have hz_w3 := hx_w3.size
  (try simp at hz_w3)
  have hp_w3 : Ext w2 w3 := Ext.trans (by with_reducible (repeat (first | exact Ext.refl _ | apply Ext.drewN | apply Ext.drew | apply Ext.alloc | (refine Ext.set ?_ (by first | (simp; done) | (simp; omega) | omega) _) | (refine Ext.trans ?_ (by assumption))))) hx_w3
  have Rw_w3 := Rw_w2.ext hp_w3
  have Rg_w3 := Rg_w2.ext hp_w3
  have hE_w3 : Ext w w3 := hE_w2.trans hp_w3
  have hsmM := sml_lt (f := (fun i => (ll L i).length)) HLL.out (n := L.length) (by omega) (Nat.le_refl _)
  obtain ⟨M, hM⟩ : ∃ M : Int, 1 + sml (fun i => (ll L i).length) L.length = M := ⟨_, rfl⟩
  go_wp2_with fail
  (with_reducible refine (markInt64SS_own _ _ _ L.length _ 1 L _ Rg_w3 (by omega) (by omega) (fun i => (ll L i).length) (fun i hi => ⟨rfl, HLL.out i hi⟩)).mono ?_)
  rintro e w4 ⟨he_w4, hk_w4, Rg_w4⟩
  rw [hM] at he_w4
  subst he_w4
  have hz_w4 := hk_w4.size
  have Rw_w4 := Rw_w3.held hk_w4 (by omega)
  have hE_w4 : Ext w w4 := hk_w4.ext hE_w3 (by have := hE_w3.size; have := hE_w1.size; omega)
  clear hk_w4
  have hnegM : ¬ M < 0 := by omega
  have hbdM : 0 ≤ M ∧ M ≤ 1200000000000 := by omega
  have HM := Lib.hid hM
  clear hM hsmM
  go_wp2_with fail
  (with_reducible refine (heldInt64SS_any _ L.length _ (fun i => (ll L i).length) 1 _ (Rg_w4.lists (by omega) (mkL_bd (by omega) (by omega) HLL.out)) (by omega) (by omega) HLL.out).mono ?_)
  rintro e w5 ⟨he_w5, hx_w5⟩
  rw [HM.out] at he_w5
  subst he_w5
  have hz_w5 := hx_w5.size
  (try simp at hz_w5)
  have hp_w5 : Ext w4 w5 := Ext.trans (by with_reducible (repeat (first | exact Ext.refl _ | apply Ext.drewN | apply Ext.drew | apply Ext.alloc | (refine Ext.set ?_ (by first | (simp; done) | (simp; omega) | omega) _) | (refine Ext.trans ?_ (by assumption))))) hx_w5
  have Rw_w5 := Rw_w4.ext hp_w5
  have Rg_w5 := Rg_w4.ext hp_w5
  have hE_w5 : Ext w w5 := hE_w4.trans hp_w5
  go_wp2_with fail
  (with_reducible refine (HI.out _).mono ?_)
  rintro e w6 ⟨Ah, ch, rfl, hx_w6, Rh⟩
  have hz_w6 := hx_w6.size
  (try simp at hz_w6)
  have hp_w6 : Ext w5 w6 := Ext.trans (by with_reducible (repeat (first | exact Ext.refl _ | apply Ext.drewN | apply Ext.drew | apply Ext.alloc | (refine Ext.set ?_ (by first | (simp; done) | (simp; omega) | omega) _) | (refine Ext.trans ?_ (by assumption))))) hx_w6
  have Rw_w6 := Rw_w5.ext hp_w6
  have Rg_w6 := Rg_w5.ext hp_w6
  have hE_w6 : Ext w w6 := hE_w5.trans hp_w6
  have Rh_w6 : LRow w6 (w5.heap.size) w6.heap.size Ah L.length ch L := Rh
  clear Rh
  have hlh : w5.heap.size ≤ w6.heap.size := by omega
  go_wp2_with fail
  (with_reducible refine (eqInt64SS_same _ _ _ _ _ L _ (Rh_w6.lists (by omega) HBD.out) (Rw_w6.lists (by omega) HBD.out)).mono ?_)
  rintro e w7 ⟨rfl, hx_w7⟩
  have hz_w7 := hx_w7.size
  (try simp at hz_w7)
  have hp_w7 : Ext w6 w7 := Ext.trans (by with_reducible (repeat (first | exact Ext.refl _ | apply Ext.drewN | apply Ext.drew | apply Ext.alloc | (refine Ext.set ?_ (by first | (simp; done) | (simp; omega) | omega) _) | (refine Ext.trans ?_ (by assumption))))) hx_w7
  have Rw_w7 := Rw_w6.ext hp_w7
  have Rg_w7 := Rg_w6.ext hp_w7
  have Rh_w7 := Rh_w6.ext hp_w7
  have hE_w7 : Ext w w7 := hE_w6.trans hp_w7
  go_wp2_with fail
  (with_reducible refine (heldInt64SS_any _ L.length _ (fun i => (ll L i).length) 1 _ (Rg_w7.lists (by omega) (mkL_bd (by omega) (by omega) HLL.out)) (by omega) (by omega) HLL.out).mono ?_)
  rintro e w8 ⟨he_w8, hx_w8⟩
  rw [HM.out] at he_w8
  subst he_w8
  have hz_w8 := hx_w8.size
  (try simp at hz_w8)
  have hp_w8 : Ext w7 w8 := Ext.trans (by with_reducible (repeat (first | exact Ext.refl _ | apply Ext.drewN | apply Ext.drew | apply Ext.alloc | (refine Ext.set ?_ (by first | (simp; done) | (simp; omega) | omega) _) | (refine Ext.trans ?_ (by assumption))))) hx_w8
  have Rw_w8 := Rw_w7.ext hp_w8
  have Rg_w8 := Rg_w7.ext hp_w8
  have Rh_w8 := Rh_w7.ext hp_w8
  have hE_w8 : Ext w w8 := hE_w7.trans hp_w8
  go_wp2
  go_ret
  exact ⟨rfl, Ext.below hE_w8⟩
end Go.Proofs.Ytbldhfmhipdniaa.fnExactListNecklaces
