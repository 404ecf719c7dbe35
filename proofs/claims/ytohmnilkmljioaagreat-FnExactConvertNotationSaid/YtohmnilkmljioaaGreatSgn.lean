/- A valid notation as a pattern: plain words and their law, and contracts of (Notation).single and l07To. No condition but the stated bounds. (tools/gsgn.py) -/
import Derived.Test.YtohmnilkmljioaaGreatVnt
import Derived.Test.YtohmnilkmljioaaGreatApt
import Derived.Test.YtohmnilkmljioaaGreatSlx
import Derived.Test.YtohmnilkmljioaaGreatCnx
namespace Go.Proofs.YtohmnilkmljioaaGreat
set_option linter.unusedVariables false
set_option linter.unusedSimpArgs false
open Go.ChangeShapes Go.WideShapes Go.ChangeAt Go.RowKit Go.Joins Go.Deep

def tz : ByteArray := { data := #[] }
def tT : ByteArray := { data := #[116, 105, 109, 105, 110, 103] }
def tJ : ByteArray := { data := #[106, 117, 103, 103, 108, 101, 114] }
/-- The throws of a notation, what is lost, and a code. -/
def sgle (D : ND) : List Int × ByteArray × Int :=
  if D.k = 2 then (if One D.m D.m.length then (sgl D.m D.m.length, tz, 0) else ([], tz, 10))
  else if D.k = 3 then (sld D.s D.s.length, tT, 0)
  else if D.k = 4 then (if NoP D.a D.a.length ∧ NoP D.b D.a.length then (vls D.a D.a.length, tJ, if vls D.a D.a.length = vls D.b D.a.length then 0 else 10) else ([], tJ, 10))
  else (D.p, tz, 0)
theorem vnt_kind {D : ND} (h : vnt D = true) : (D.k = 1 ∧ vpat D.p = true) ∨ (D.k = 2 ∧ vmul D.m = true) ∨ (D.k = 3 ∧ vsyn D.s = true) ∨ (D.k = 4 ∧ vpas D.a D.b = true) := by
  unfold vnt at h
  rw [Bool.and_eq_true] at h
  have h2 := h.2
  split at h2
  · exact .inl ⟨by assumption, h2⟩
  · split at h2
    · exact .inr (.inl ⟨by assumption, h2⟩)
    · split at h2
      · exact .inr (.inr (.inl ⟨by assumption, h2⟩))
      · split at h2
        · exact .inr (.inr (.inr ⟨by assumption, h2⟩))
        · cases h2
theorem sgle_vpat {D : ND} (h : vnt D = true) (hl : D.s.length = 2 * (D.s.length / 2)) (hc : (sgle D).2.2 = 0) : vpat (sgle D).1 = true := by
  rcases vnt_kind h with ⟨hk, hv⟩ | ⟨hk, hv⟩ | ⟨hk, hv⟩ | ⟨hk, hv⟩
  · unfold sgle
    rw [if_neg (by omega), if_neg (by omega), if_neg (by omega)]
    exact hv
  · unfold sgle at hc ⊢
    rw [if_pos hk] at hc ⊢
    by_cases ho : One D.m D.m.length
    · rw [if_pos ho]
      exact vmul_sgl rfl hv ho
    · rw [if_neg ho] at hc
      cases hc
  · unfold sgle
    rw [if_neg (by omega), if_pos hk, hl]
    exact vsyn_sld hl hv
  · unfold sgle at hc ⊢
    rw [if_neg (by omega), if_neg (by omega), if_pos hk] at hc ⊢
    by_cases ho : NoP D.a D.a.length ∧ NoP D.b D.a.length
    · rw [if_pos ho]
      exact (vpas_vls rfl (vpas_len hv).2.2 hv ho.1 ho.2).1
    · rw [if_neg ho] at hc
      cases hc
/-- What single hands back. -/
def RetSl (w : World) (r : List Int × ByteArray × Int) (e : Ending) (w' : World) : Prop :=
  (r.2.2 = 0 ∧ ∃ A c, e = .returned (.tuple #[.slice A r.1.length c, .string r.2.1, .int .i64 0]) ∧ Own w w' (.slice A r.1.length c) r.1) ∨ (r.2.2 ≠ 0 ∧ (∃ v l, e = .returned (.tuple #[v, .string l, .int .i64 r.2.2])) ∧ Ext w w')
theorem vls_bd {ts : List (Int × Bool)} {n : Nat} (h : ∀ i, i < n → 0 ≤ tv ts i ∧ tv ts i ≤ 15) : ∀ y ∈ vls ts n, -9223372036854775808 ≤ y ∧ y ≤ 9223372036854775807 := fun y hy => by
  simp only [vls, List.mem_map, List.mem_range] at hy
  obtain ⟨i, hi, rfl⟩ := hy
  have := h i hi
  omega
set_option maxHeartbeats 8000000 in
theorem single_any (V : NV) (D : ND) (w : World) (hI : NtR w V D) (hV : vnt D = true) :
    Calls Tryz.prog 27 #[V.val] w (RetSl w (sgle D)) := by
  obtain ⟨k, A, na, ca, B, nb, cb, S, ns, cs, P, np, cp, Q, nq, cq⟩ := V
  obtain ⟨kk, dp, dm, ds, da, db⟩ := D
  obtain ⟨hk, hp, hm, hs, ha, hb⟩ := hI
  unfold NV.val
  dsimp only at *
  subst hk
  have hls := hs.len
  have hlp := hp.len
  have hlm := hm.len
  have hla := ha.len
  have hlb := hb.len
  have hkd := vnt_kind hV
  dsimp only at hkd
  clear hV
  obtain ⟨r, hr⟩ : ∃ r, sgle ⟨k, dp, dm, ds, da, db⟩ = r := ⟨_, rfl⟩
  rw [hr]
  rcases hkd with ⟨rfl, hv⟩ | ⟨rfl, hv⟩ | ⟨rfl, hv⟩ | ⟨rfl, hv⟩
  · have HS : Hid (r = (dp, tz, 0)) := hr.symm
    clear hr
    have hn12 := (vpat_len hv).2
    go_enter Tryz.func27, Tryz.ntmps27
    go_wp2_with fail
    (with_reducible refine (copyNumbers_any A na ca dp _ (hp.ext (by with_reducible (repeat (first | exact Ext.refl _ | apply Ext.drewN | apply Ext.drew | apply Ext.alloc | (refine Ext.set ?_ (by first | (simp; done) | (simp; omega) | omega) _) | (refine Ext.trans ?_ (by assumption)))))) (by omega)).mono ?_)
    rintro e w1 ⟨A1, c1', rfl, hO⟩
    have HT : Hid (RetSl w r (.returned (.tuple #[.slice A1 na c1', .string tz, .int .i64 0])) w1) := by show RetSl _ _ _ _; rw [HS.out]; exact .inl ⟨rfl, A1, c1', by rw [hlp], by show Own _ _ (.slice A1 dp.length c1') dp; rw [hlp]; exact ⟨by rw [hlp]; exact ownsRow_le hO.own (Ext.size (by with_reducible (repeat (first | exact Ext.refl _ | apply Ext.drewN | apply Ext.drew | apply Ext.alloc | (refine Ext.set ?_ (by first | (simp; done) | (simp; omega) | omega) _) | (refine Ext.trans ?_ (by assumption)))))), Ext.trans (by with_reducible (repeat (first | exact Ext.refl _ | apply Ext.drewN | apply Ext.drew | apply Ext.alloc | (refine Ext.set ?_ (by first | (simp; done) | (simp; omega) | omega) _) | (refine Ext.trans ?_ (by assumption))))) hO.ext⟩⟩
    clear hO
    go_wp2
    go_ret3
    exact HT.out
  · have HS : Hid (r = if One dm nb then (sgl dm nb, tz, 0) else ([], tz, 10)) := by show _ = _; rw [← hr, ← hlm]; rfl
    clear hr
    go_enter Tryz.func27, Tryz.ntmps27
    go_wp2_with fail
    (with_reducible refine (implSingleOf_any B nb cb dm _ (hm.ext (by with_reducible (repeat (first | exact Ext.refl _ | apply Ext.drewN | apply Ext.drew | apply Ext.alloc | (refine Ext.set ?_ (by first | (simp; done) | (simp; omega) | omega) _) | (refine Ext.trans ?_ (by assumption)))))) hv).mono ?_)
    rintro e w1 (⟨h1, A1, c1', rfl, hO⟩ | ⟨h1, rfl, hx⟩)
    · have HT : Hid (RetSl w r (.returned (.tuple #[.slice A1 nb c1', .string tz, .int .i64 0])) w1) := by show RetSl _ _ _ _; rw [HS.out, if_pos h1]; exact .inl ⟨rfl, A1, c1', by rw [sgl_len], by show Own _ _ (.slice A1 (sgl dm nb).length c1') _; rw [sgl_len]; exact hO.base (by with_reducible (repeat (first | exact Ext.refl _ | apply Ext.drewN | apply Ext.drew | apply Ext.alloc | (refine Ext.set ?_ (by first | (simp; done) | (simp; omega) | omega) _) | (refine Ext.trans ?_ (by assumption)))))⟩
      clear hO h1
      go_wp2
      go_ret3
      exact HT.out
    · have HT : Hid (RetSl w r (.returned (.tuple #[.slice none 0 0, .string tz, .int .i64 10])) w1) := by show RetSl _ _ _ _; rw [HS.out, if_neg h1]; exact .inr ⟨(by decide), ⟨_, _, rfl⟩, Ext.trans (by with_reducible (repeat (first | exact Ext.refl _ | apply Ext.drewN | apply Ext.drew | apply Ext.alloc | (refine Ext.set ?_ (by first | (simp; done) | (simp; omega) | omega) _) | (refine Ext.trans ?_ (by assumption))))) hx⟩
      clear h1 hx
      go_wp2
      go_ret3
      exact HT.out
  · have HS : Hid (r = (sld ds (2 * ns), tT, 0)) := by show _ = _; rw [← hr, ← hls]; rfl
    clear hr
    go_enter Tryz.func27, Tryz.ntmps27
    go_wp2_with fail
    (with_reducible refine (slid_any S ns cs ds _ (hs.ext (by with_reducible (repeat (first | exact Ext.refl _ | apply Ext.drewN | apply Ext.drew | apply Ext.alloc | (refine Ext.set ?_ (by first | (simp; done) | (simp; omega) | omega) _) | (refine Ext.trans ?_ (by assumption)))))) (by unfold vsyn at hv; rw [Bool.and_eq_true] at hv; exact hv.1)).mono ?_)
    rintro e w1 ⟨A1, c1', rfl, hO⟩
    have HT : Hid (RetSl w r (.returned (.tuple #[.slice A1 (sld ds (2 * ns)).length c1', .string tT, .int .i64 0])) w1) := by show RetSl _ _ _ _; rw [HS.out]; exact .inl ⟨rfl, A1, c1', rfl, hO.base (by with_reducible (repeat (first | exact Ext.refl _ | apply Ext.drewN | apply Ext.drew | apply Ext.alloc | (refine Ext.set ?_ (by first | (simp; done) | (simp; omega) | omega) _) | (refine Ext.trans ?_ (by assumption)))))⟩
    clear hO
    generalize (sld ds (2 * ns)).length = z at *
    go_wp2
    go_ret3
    exact HT.out
  · obtain ⟨h81, h88, h8e⟩ := vpas_len hv
    obtain rfl : nq = np := by omega
    rw [hla] at h81 h88
    have HS : Hid (r = if NoP da nq ∧ NoP db nq then (vls da nq, tJ, if vls da nq = vls db nq then 0 else 10) else ([], tJ, 10)) := by show _ = _; rw [← hr, ← hla]; rfl
    clear hr
    have hfp := fpas_parts (show fpas da db = true by unfold vpas at hv; rw [Bool.and_eq_true] at hv; exact hv.1)
    have HBA : Hid (∀ y ∈ vls da nq, -9223372036854775808 ≤ y ∧ y ≤ 9223372036854775807) := vls_bd (fun i hi => hfp.2.2.2.1 i (by omega))
    have HBB : Hid (∀ y ∈ vls db nq, -9223372036854775808 ≤ y ∧ y ≤ 9223372036854775807) := vls_bd (fun i hi => hfp.2.2.2.2 i (by omega))
    clear hfp
    go_enter Tryz.func27, Tryz.ntmps27
    go_wp2_with fail
    (with_reducible refine (implApartOf_any P Q nq cp cq da db _ (ha.ext (by with_reducible (repeat (first | exact Ext.refl _ | apply Ext.drewN | apply Ext.drew | apply Ext.alloc | (refine Ext.set ?_ (by first | (simp; done) | (simp; omega) | omega) _) | (refine Ext.trans ?_ (by assumption)))))) (hb.ext (by with_reducible (repeat (first | exact Ext.refl _ | apply Ext.drewN | apply Ext.drew | apply Ext.alloc | (refine Ext.set ?_ (by first | (simp; done) | (simp; omega) | omega) _) | (refine Ext.trans ?_ (by assumption)))))) hv h88).mono ?_)
    rintro e w1 (⟨h1, h2, A1, c1', B1, d1', rfl, hO, hO2⟩ | ⟨h1, rfl, hx⟩)
    · have HQ : Hid (r = (vls da nq, tJ, if vls da nq = vls db nq then 0 else 10)) := by show _ = _; rw [HS.out, if_pos ⟨h1, h2⟩]
      have hIa := hO.ints (vls_len _ _) (by omega) HBA.out
      have hIb := hO2.ints (vls_len _ _) (by omega) HBB.out
      have hE1 : Ext w w1 := Ext.trans (by with_reducible (repeat (first | exact Ext.refl _ | apply Ext.drewN | apply Ext.drew | apply Ext.alloc | (refine Ext.set ?_ (by first | (simp; done) | (simp; omega) | omega) _) | (refine Ext.trans ?_ (by assumption))))) hO.ext
      have HOW := Lib.hid (hO.base (show Ext w _ from (by with_reducible (repeat (first | exact Ext.refl _ | apply Ext.drewN | apply Ext.drew | apply Ext.alloc | (refine Ext.set ?_ (by first | (simp; done) | (simp; omega) | omega) _) | (refine Ext.trans ?_ (by assumption)))))))
      clear hO hO2 h1 h2
      by_cases heq : vls da nq = vls db nq
      · have hd : decide (vls da nq = vls db nq) = true := decide_eq_true heq
        have HT : Hid (∀ q, RetSl w r (.returned (.tuple #[.slice A1 nq c1', .string tJ, .int .i64 0])) (w1.drewN q)) := fun q => by rw [HQ.out]; exact .inl ⟨if_pos heq, A1, c1', by rw [vls_len], by show Own _ _ (.slice A1 (vls da nq).length c1') _; rw [vls_len]; exact HOW.out.trans ((Ext.refl _).drewN q)⟩
        clear heq
        go_wp2_with fail
        (with_reducible refine (sameNumbers_is A1 B1 nq nq c1' d1' _ _ _ hIa hIb _ hd).mono ?_)
        rintro e w2 ⟨rfl, q, rfl⟩
        generalize vls da nq = xs at *
        generalize vls db nq = ys at *
        go_wp2
        go_ret3
        exact HT.out q
      · have hd : decide (vls da nq = vls db nq) = false := decide_eq_false heq
        have HT : Hid (∀ q, RetSl w r (.returned (.tuple #[.slice A1 nq c1', .string tJ, .int .i64 10])) (w1.drewN q)) := fun q => by rw [HQ.out]; exact .inr ⟨by rw [if_neg heq]; show (10 : Int) ≠ 0; decide, ⟨_, _, by rw [if_neg heq]⟩, hE1.drewN q⟩
        clear heq
        go_wp2_with fail
        (with_reducible refine (sameNumbers_is A1 B1 nq nq c1' d1' _ _ _ hIa hIb _ hd).mono ?_)
        rintro e w2 ⟨rfl, q, rfl⟩
        generalize vls da nq = xs at *
        generalize vls db nq = ys at *
        go_wp2
        go_ret3
        exact HT.out q
    · have HT : Hid (RetSl w r (.returned (.tuple #[.slice none 0 0, .string tJ, .int .i64 10])) w1) := by show RetSl _ _ _ _; rw [HS.out, if_neg h1]; exact .inr ⟨(by decide), ⟨_, _, rfl⟩, Ext.trans (by with_reducible (repeat (first | exact Ext.refl _ | apply Ext.drewN | apply Ext.drew | apply Ext.alloc | (refine Ext.set ?_ (by first | (simp; done) | (simp; omega) | omega) _) | (refine Ext.trans ?_ (by assumption))))) hx⟩
      clear h1 hx
      go_wp2
      go_ret3
      exact HT.out
set_option maxHeartbeats 8000000 in
theorem l07To_any (g : Nat) (V : NV) (D : ND) (w : World) (hB : NBox w g V) (hI : NtR w V D) (hV : vnt D = true) :
    Calls Tryz.prog 18 #[.pointer (some ⟨g, 0, none⟩)] w (RetSl w (sgle D)) := by
  obtain ⟨k, A, na, ca, B, nb, cb, S, ns, cs, P, np, cp, Q, nq, cq⟩ := V
  obtain ⟨kk, dp, dm, ds, da, db⟩ := D
  obtain ⟨hk, hp, hm, hs, ha, hb⟩ := hI
  obtain ⟨hg, c0, c1, c2, c3, c4, c5⟩ := hB
  dsimp only at *
  subst hk
  have hls := hs.len
  have hlp := hp.len
  have hlm := hm.len
  have hla := ha.len
  have hlb := hb.len
  have hkd := vnt_kind hV
  dsimp only at hkd
  clear hV
  obtain ⟨r, hr⟩ : ∃ r, sgle ⟨k, dp, dm, ds, da, db⟩ = r := ⟨_, rfl⟩
  rw [hr]
  rcases hkd with ⟨rfl, hv⟩ | ⟨rfl, hv⟩ | ⟨rfl, hv⟩ | ⟨rfl, hv⟩
  · have HS : Hid (r = (dp, tz, 0)) := hr.symm
    clear hr
    have hn12 := (vpat_len hv).2
    go_enter Tryz.func18, Tryz.ntmps18
    go_wp2_with fail
    (with_reducible refine (l00Own_any A na ca dp _ (hp.ext (by with_reducible (repeat (first | exact Ext.refl _ | apply Ext.drewN | apply Ext.drew | apply Ext.alloc | (refine Ext.set ?_ (by first | (simp; done) | (simp; omega) | omega) _) | (refine Ext.trans ?_ (by assumption)))))) (by omega)).mono ?_)
    rintro e w1 ⟨A1, c1', rfl, hO⟩
    have HT : Hid (RetSl w r (.returned (.tuple #[.slice A1 na c1', .string tz, .int .i64 0])) w1) := by show RetSl _ _ _ _; rw [HS.out]; exact .inl ⟨rfl, A1, c1', by rw [hlp], by show Own _ _ (.slice A1 dp.length c1') dp; rw [hlp]; exact ⟨by rw [hlp]; exact ownsRow_le hO.own (Ext.size (by with_reducible (repeat (first | exact Ext.refl _ | apply Ext.drewN | apply Ext.drew | apply Ext.alloc | (refine Ext.set ?_ (by first | (simp; done) | (simp; omega) | omega) _) | (refine Ext.trans ?_ (by assumption)))))), Ext.trans (by with_reducible (repeat (first | exact Ext.refl _ | apply Ext.drewN | apply Ext.drew | apply Ext.alloc | (refine Ext.set ?_ (by first | (simp; done) | (simp; omega) | omega) _) | (refine Ext.trans ?_ (by assumption))))) hO.ext⟩⟩
    clear hO
    go_wp2
    go_ret3
    exact HT.out
  · have HS : Hid (r = if One dm nb then (sgl dm nb, tz, 0) else ([], tz, 10)) := by show _ = _; rw [← hr, ← hlm]; rfl
    clear hr
    go_enter Tryz.func18, Tryz.ntmps18
    go_wp2_with fail
    (with_reducible refine (specSingleOf_any B nb cb dm _ (hm.ext (by with_reducible (repeat (first | exact Ext.refl _ | apply Ext.drewN | apply Ext.drew | apply Ext.alloc | (refine Ext.set ?_ (by first | (simp; done) | (simp; omega) | omega) _) | (refine Ext.trans ?_ (by assumption)))))) hv).mono ?_)
    rintro e w1 (⟨h1, A1, c1', rfl, hO⟩ | ⟨h1, rfl, hx⟩)
    · have HT : Hid (RetSl w r (.returned (.tuple #[.slice A1 nb c1', .string tz, .int .i64 0])) w1) := by show RetSl _ _ _ _; rw [HS.out, if_pos h1]; exact .inl ⟨rfl, A1, c1', by rw [sgl_len], by show Own _ _ (.slice A1 (sgl dm nb).length c1') _; rw [sgl_len]; exact hO.base (by with_reducible (repeat (first | exact Ext.refl _ | apply Ext.drewN | apply Ext.drew | apply Ext.alloc | (refine Ext.set ?_ (by first | (simp; done) | (simp; omega) | omega) _) | (refine Ext.trans ?_ (by assumption)))))⟩
      clear hO h1
      go_wp2
      go_ret3
      exact HT.out
    · have HT : Hid (RetSl w r (.returned (.tuple #[.slice none 0 0, .string tz, .int .i64 10])) w1) := by show RetSl _ _ _ _; rw [HS.out, if_neg h1]; exact .inr ⟨(by decide), ⟨_, _, rfl⟩, Ext.trans (by with_reducible (repeat (first | exact Ext.refl _ | apply Ext.drewN | apply Ext.drew | apply Ext.alloc | (refine Ext.set ?_ (by first | (simp; done) | (simp; omega) | omega) _) | (refine Ext.trans ?_ (by assumption))))) hx⟩
      clear h1 hx
      go_wp2
      go_ret3
      exact HT.out
  · have HS : Hid (r = (sld ds (2 * ns), tT, 0)) := by show _ = _; rw [← hr, ← hls]; rfl
    clear hr
    go_enter Tryz.func18, Tryz.ntmps18
    go_wp2_with fail
    (with_reducible refine (specSlideSync_any S ns cs ds _ (hs.ext (by with_reducible (repeat (first | exact Ext.refl _ | apply Ext.drewN | apply Ext.drew | apply Ext.alloc | (refine Ext.set ?_ (by first | (simp; done) | (simp; omega) | omega) _) | (refine Ext.trans ?_ (by assumption)))))) hv).mono ?_)
    rintro e w1 ⟨A1, c1', rfl, hO⟩
    have HT : Hid (RetSl w r (.returned (.tuple #[.slice A1 (sld ds (2 * ns)).length c1', .string tT, .int .i64 0])) w1) := by show RetSl _ _ _ _; rw [HS.out]; exact .inl ⟨rfl, A1, c1', rfl, hO.base (by with_reducible (repeat (first | exact Ext.refl _ | apply Ext.drewN | apply Ext.drew | apply Ext.alloc | (refine Ext.set ?_ (by first | (simp; done) | (simp; omega) | omega) _) | (refine Ext.trans ?_ (by assumption)))))⟩
    clear hO
    generalize (sld ds (2 * ns)).length = z at *
    go_wp2
    go_ret3
    exact HT.out
  · obtain ⟨h81, h88, h8e⟩ := vpas_len hv
    obtain rfl : nq = np := by omega
    rw [hla] at h81 h88
    have HS : Hid (r = if NoP da nq ∧ NoP db nq then (vls da nq, tJ, if vls da nq = vls db nq then 0 else 10) else ([], tJ, 10)) := by show _ = _; rw [← hr, ← hla]; rfl
    clear hr
    have hfp := fpas_parts (show fpas da db = true by unfold vpas at hv; rw [Bool.and_eq_true] at hv; exact hv.1)
    have HBA : Hid (∀ y ∈ vls da nq, -9223372036854775808 ≤ y ∧ y ≤ 9223372036854775807) := vls_bd (fun i hi => hfp.2.2.2.1 i (by omega))
    have HBB : Hid (∀ y ∈ vls db nq, -9223372036854775808 ≤ y ∧ y ≤ 9223372036854775807) := vls_bd (fun i hi => hfp.2.2.2.2 i (by omega))
    clear hfp
    go_enter Tryz.func18, Tryz.ntmps18
    go_wp2_with fail
    (with_reducible refine (specApartOf_any P Q nq cp cq da db _ (ha.ext (by with_reducible (repeat (first | exact Ext.refl _ | apply Ext.drewN | apply Ext.drew | apply Ext.alloc | (refine Ext.set ?_ (by first | (simp; done) | (simp; omega) | omega) _) | (refine Ext.trans ?_ (by assumption)))))) (hb.ext (by with_reducible (repeat (first | exact Ext.refl _ | apply Ext.drewN | apply Ext.drew | apply Ext.alloc | (refine Ext.set ?_ (by first | (simp; done) | (simp; omega) | omega) _) | (refine Ext.trans ?_ (by assumption)))))) hv h88).mono ?_)
    rintro e w1 (⟨h1, h2, A1, c1', B1, d1', rfl, hO, hO2⟩ | ⟨h1, rfl, hx⟩)
    · have HQ : Hid (r = (vls da nq, tJ, if vls da nq = vls db nq then 0 else 10)) := by show _ = _; rw [HS.out, if_pos ⟨h1, h2⟩]
      have hIa := hO.ints (vls_len _ _) (by omega) HBA.out
      have hIb := hO2.ints (vls_len _ _) (by omega) HBB.out
      have hE1 : Ext w w1 := Ext.trans (by with_reducible (repeat (first | exact Ext.refl _ | apply Ext.drewN | apply Ext.drew | apply Ext.alloc | (refine Ext.set ?_ (by first | (simp; done) | (simp; omega) | omega) _) | (refine Ext.trans ?_ (by assumption))))) hO.ext
      have HOW := Lib.hid (hO.base (show Ext w _ from (by with_reducible (repeat (first | exact Ext.refl _ | apply Ext.drewN | apply Ext.drew | apply Ext.alloc | (refine Ext.set ?_ (by first | (simp; done) | (simp; omega) | omega) _) | (refine Ext.trans ?_ (by assumption)))))))
      clear hO hO2 h1 h2
      by_cases heq : vls da nq = vls db nq
      · have hd : decide (vls da nq = vls db nq) = true := decide_eq_true heq
        have HT : Hid (∀ q, RetSl w r (.returned (.tuple #[.slice A1 nq c1', .string tJ, .int .i64 0])) (w1.drewN q)) := fun q => by rw [HQ.out]; exact .inl ⟨if_pos heq, A1, c1', by rw [vls_len], by show Own _ _ (.slice A1 (vls da nq).length c1') _; rw [vls_len]; exact HOW.out.trans ((Ext.refl _).drewN q)⟩
        clear heq
        go_wp2_with fail
        (with_reducible refine (l00SameN_is A1 B1 nq nq c1' d1' _ _ _ hIa hIb _ hd).mono ?_)
        rintro e w2 ⟨rfl, q, rfl⟩
        generalize vls da nq = xs at *
        generalize vls db nq = ys at *
        go_wp2
        go_ret3
        exact HT.out q
      · have hd : decide (vls da nq = vls db nq) = false := decide_eq_false heq
        have HT : Hid (∀ q, RetSl w r (.returned (.tuple #[.slice A1 nq c1', .string tJ, .int .i64 10])) (w1.drewN q)) := fun q => by rw [HQ.out]; exact .inr ⟨by rw [if_neg heq]; show (10 : Int) ≠ 0; decide, ⟨_, _, by rw [if_neg heq]⟩, hE1.drewN q⟩
        clear heq
        go_wp2_with fail
        (with_reducible refine (l00SameN_is A1 B1 nq nq c1' d1' _ _ _ hIa hIb _ hd).mono ?_)
        rintro e w2 ⟨rfl, q, rfl⟩
        generalize vls da nq = xs at *
        generalize vls db nq = ys at *
        go_wp2
        go_ret3
        exact HT.out q
    · have HT : Hid (RetSl w r (.returned (.tuple #[.slice none 0 0, .string tJ, .int .i64 10])) w1) := by show RetSl _ _ _ _; rw [HS.out, if_neg h1]; exact .inr ⟨(by decide), ⟨_, _, rfl⟩, Ext.trans (by with_reducible (repeat (first | exact Ext.refl _ | apply Ext.drewN | apply Ext.drew | apply Ext.alloc | (refine Ext.set ?_ (by first | (simp; done) | (simp; omega) | omega) _) | (refine Ext.trans ?_ (by assumption))))) hx⟩
      clear h1 hx
      go_wp2
      go_ret3
      exact HT.out
end Go.Proofs.YtohmnilkmljioaaGreat
