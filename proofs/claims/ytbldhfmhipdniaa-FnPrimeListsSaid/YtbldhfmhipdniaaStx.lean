/- Sta Stb Stc in one text (a claim has at most 60 files). No condition but the stated bounds. -/
import Derived.Test.YtbldhfmhipdniaaLfr
import Derived.Test.YtbldhfmhipdniaaCnx
import Derived.Deep.QuietTactic
import Derived.BigQuiet
namespace Go.Proofs.Ytbldhfmhipdniaa
set_option linter.unusedVariables false
set_option linter.unusedSimpArgs false
open Go.RowKit Go.Joins

set_option maxHeartbeats 1000000 in
theorem l02From_any (A : Option Addr) (n c : Nat) (xs : List Int) (z : Int) (w : World) (hI : Ints w A n xs) (hv : vpat xs = true) (hz : -2000000 ≤ z ∧ z ≤ 2000000) :
    Calls Try.prog 93 #[.slice A n c, .int .i64 z] w fun e w' => e = .returned (.int .i64 (frm (thAt xs) z)) ∧ Ext w w' := by
  obtain ⟨hb1, hb2, hb3⟩ := thr_iff.1 (vpat_thr hv)
  have HX := Lib.hid hb1
  have HL := Lib.hid hI.len
  have HV := Lib.hid hv
  rw [hI.len] at hb2 hb3
  have HF := Lib.hid (frm_found hv z)
  clear hb1 hv
  obtain ⟨m, hm⟩ : ∃ m, z % (n : Int) = m := ⟨_, rfl⟩
  have HM := Lib.hid hm
  clear hm
  obtain ⟨b, off, rfl, hb, _⟩ := hI.at_ (by omega)
  go_enter Try.func93, Try.ntmps93
  go_wp2
  go_loopw [6] (fun i wr => ∃ k : Nat, k ≤ n ∧ i = .int .i64 k ∧ Ext w wr ∧ Hid (NoLand xs z k)) (fun i _ => n - (intOf i).toNat)
  case atStart => exact ⟨0, Nat.zero_le _, rfl, Ext.refl _, fun j h => absurd h (by omega)⟩
  case round =>
    obtain ⟨k, hk, rfl, hxr, HNO⟩ := hrel
    have HXR := Lib.hid hxr
    by_cases hlt : k < n
    · obtain ⟨b2, off2, hA, hb2, hcell⟩ := (hI.ext hxr).at_ (by omega)
      simp only [Option.some.injEq, Addr.mk.injEq, and_true] at hA
      obtain ⟨rfl, rfl⟩ := hA
      have hc := hcell k hlt
      have hbd := HX.out k (by rw [HL.out]; exact hlt)
      have i1 : (k : Int) < n := by omega
      have i0 : (0 : Int) ≤ k := by omega
      clear hcell hxr
      have hl0 : lnd xs k = ((k : Int) + xs[k]?.getD 0) % n := by unfold lnd; rw [HL.out]
      have HH : Hid (lnd xs k = m → z - xs[k]?.getD 0 = frm (thAt xs) z) := fun h => frm_hit HV.out (by rw [HL.out]; exact hlt) (by rw [HL.out, HM.out]; exact h)
      have HN : Hid (¬ lnd xs k = m → NoLand xs z (k + 1)) := fun h => HNO.out.succ (by rw [HL.out, HM.out]; exact h)
      generalize lnd xs k = l at hl0 HH HN
      generalize xs[k]?.getD 0 = x at hc hbd hl0 HH
      have hw1 : IntKind.i64.wrap ((k : Int) + x) = k + x := IntWalk.i64_in _ (by omega)
      have hn0 : ¬ (n : Int) = 0 := by omega
      have hn1 : ¬ n = 0 := by omega
      have hl1 : Int.tmod ((k : Int) + x) n = l := by rw [hl0]; exact Int.tmod_eq_emod_of_nonneg (by omega)
      clear hl0
      by_cases hh : l = m
      · subst hh
        have HR : Hid (z - x = frm (thAt xs) z) := HH.out rfl
        go_wp2
        go_quiet ((go_at_call 87; first | with_reducible exact quiet_l (l02Mod_is _ _ l _ (by omega) (by omega) HM.out) | with_reducible exact quiet_la (l02Mod_is _ _ l _ (by omega) (by omega) HM.out)))
        go_wp2
        go_ret
        exact ⟨ret_int HR.out, HXR.out.trans (by with_reducible (repeat (first | exact Ext.refl _ | apply Ext.drewN | apply Ext.drew | apply Ext.alloc | (refine Ext.set ?_ (by first | (simp; done) | (simp; omega) | omega) _) | (refine Ext.trans ?_ (by assumption)))))⟩
      · have HR : Hid (NoLand xs z (k + 1)) := HN.out hh
        have hne : (l == m) = false := by simpa using hh
        clear hh
        go_wp2
        go_quiet ((go_at_call 87; first | with_reducible exact quiet_l (l02Mod_is _ _ m _ (by omega) (by omega) HM.out) | with_reducible exact quiet_la (l02Mod_is _ _ m _ (by omega) (by omega) HM.out)))
        go_wp2
        go_roundw
        case rel => exact ⟨k + 1, by omega, by go_num, HXR.out.trans (by with_reducible (repeat (first | exact Ext.refl _ | apply Ext.drewN | apply Ext.drew | apply Ext.alloc | (refine Ext.set ?_ (by first | (simp; done) | (simp; omega) | omega) _) | (refine Ext.trans ?_ (by assumption))))), HR⟩
        case measure => simp [intOf]; omega
    · exfalso
      obtain rfl : k = n := by omega
      obtain ⟨i, hi, hq⟩ := HF.out
      exact HNO.out i (by rw [← HL.out]; exact hi) hq
theorem l02From_is (A : Option Addr) (n c : Nat) (xs : List Int) (z : Int) (w : World) (hI : Ints w A n xs) (hv : vpat xs = true) (hz : -2000000 ≤ z ∧ z ≤ 2000000) (f : Int) (hf : frm (thAt xs) z = f) :
    Calls Try.prog 93 #[.slice A n c, .int .i64 z] w fun e w' => e = .returned (.int .i64 f) ∧ Ext w w' := by
  subst hf
  exact l02From_any A n c xs z w hI hv hz
/-- A prop lands t beats from now that was thrown before the beat. -/
def ldB (xs : List Int) (b : Int) (t : Nat) : Bool := decide (frm (thAt xs) (b + t) < b)
/-- The mask of a state: bit by bit. -/
def mskS (f : Nat → Bool) : Nat → Int
  | 0 => 0
  | k + 1 => if f k = true then bits .or .i64 (mskS f k) (wrap64 (2 ^ k)) else mskS f k
def msk (xs : List Int) (h b : Nat) : Int := mskS (ldB xs b) h
theorem mskS_yes {f : Nat → Bool} {k : Nat} (h : f k = true) : mskS f (k + 1) = bits .or .i64 (mskS f k) (wrap64 (2 ^ k)) := if_pos h
theorem mskS_no {f : Nat → Bool} {k : Nat} (h : f k = false) : mskS f (k + 1) = mskS f k := if_neg (by rw [h]; simp)
set_option maxHeartbeats 2000000 in
theorem stateOf_any (A : Option Addr) (n c : Nat) (xs : List Int) (b h : Nat) (w : World) (hI : Ints w A n xs) (hv : vpat xs = true) (hb : b ≤ 1000) (hh : h ≤ 20) :
    Calls Try.prog 96 #[.slice A n c, .int .i64 (b : Int), .int .i64 (h : Int)] w fun e w' => e = .returned (.agg #[.int .i64 h, .int .i64 (msk xs h b)]) ∧ Ext w w' := by
  have HI := Lib.hid hI
  have HV := Lib.hid hv
  clear hv
  go_enter Try.func96, Try.ntmps96
  go_wp2
  go_loopw [13] (fun i wr => ∃ k : Nat, k ≤ h ∧ i = .int .i64 k ∧ Ext w wr ∧ w.heap.size + 1 < wr.heap.size ∧ wr.cell? ⟨w.heap.size + 1, 0, none⟩ = some (.int .i64 h) ∧ wr.cell? ⟨w.heap.size + 1, 1, none⟩ = some (.int .i64 (mskS (ldB xs b) k)) ∧ wr.frozen? ⟨w.heap.size + 1, 1, none⟩ = false ∧ (∃ v0, wr.cell? ⟨w.heap.size, 0, none⟩ = some v0) ∧ (∃ v1, wr.cell? ⟨w.heap.size, 1, none⟩ = some v1) ∧ wr.frozen? ⟨w.heap.size, 0, none⟩ = false ∧ wr.frozen? ⟨w.heap.size, 1, none⟩ = false) (fun i _ => h - (intOf i).toNat)
  case atStart => exact ⟨0, Nat.zero_le _, rfl, (by with_reducible (repeat (first | exact Ext.refl _ | apply Ext.drewN | apply Ext.drew | apply Ext.alloc | (refine Ext.set ?_ (by first | (simp; done) | (simp; omega) | omega) _) | (refine Ext.trans ?_ (by assumption))))), by simp, by go_simp, by go_simp; rfl, by go_simp, ⟨_, by go_simp; rfl⟩, ⟨_, by go_simp; rfl⟩, by go_simp, by go_simp⟩
  case round =>
    obtain ⟨k, hk, rfl, hxr, hsz, q0, q1, f1, ⟨v0, r0⟩, ⟨v1, r1⟩, g0, g1⟩ := hrel
    have HXR := Lib.hid hxr
    clear hxr
    by_cases hlt : k < h
    · have i1 : (k : Int) < h := by omega
      obtain ⟨f, hf⟩ : ∃ f, frm (thAt xs) ((b : Int) + k) = f := ⟨_, rfl⟩
      have HF := Lib.hid hf
      have HLD : Hid (ldB xs b k = decide (f < b)) := by show decide _ = _; rw [hf]
      clear hf
      go_wp2_with fail
      (with_reducible refine (landsFrom_is _ _ _ xs _ _ (HI.out.ext (HXR.out.trans (by with_reducible (repeat (first | exact Ext.refl _ | apply Ext.drewN | apply Ext.drew | apply Ext.alloc | (refine Ext.set ?_ (by first | (simp; done) | (simp; omega) | omega) _) | (refine Ext.trans ?_ (by assumption))))))) HV.out (by omega) f HF.out).mono ?_)
      rintro e w3 ⟨rfl, hx3⟩
      have HX3 := Lib.hid hx3
      have hsz3 := hx3.size
      have p0 := hx3.cell hsz q0
      have p1 := hx3.cell hsz q1
      have pf : w3.frozen? ⟨w.heap.size + 1, 1, none⟩ = false := (hx3.cells.2 _ _ hsz).trans f1
      have pr0 := hx3.cell (by omega) r0
      have pr1 := hx3.cell (by omega) r1
      have pg0 : w3.frozen? ⟨w.heap.size, 0, none⟩ = false := (hx3.cells.2 _ _ (by omega)).trans g0
      have pg1 : w3.frozen? ⟨w.heap.size, 1, none⟩ = false := (hx3.cells.2 _ _ (by omega)).trans g1
      clear hx3
      by_cases hfb : f < b
      · have HS : Hid (mskS (ldB xs b) (k + 1) = bits .or .i64 (mskS (ldB xs b) k) (wrap64 (2 ^ k))) := mskS_yes (by rw [HLD.out]; exact decide_eq_true hfb)
        generalize mskS (ldB xs b) k = m at q1 p1 HS
        go_wp2
        go_roundw
        case rel => exact ⟨k + 1, by omega, by go_num, (HXR.out.trans HX3.out).set (by simp) _, by simp [World.setCell]; omega, by go_simp, by rw [HS.out]; go_simp, by go_simp, ⟨v0, by go_simp⟩, ⟨v1, by go_simp⟩, by go_simp, by go_simp⟩
        case measure => simp [intOf]; omega
      · have HS : Hid (mskS (ldB xs b) (k + 1) = mskS (ldB xs b) k) := mskS_no (by rw [HLD.out]; exact decide_eq_false hfb)
        generalize mskS (ldB xs b) k = m at q1 p1 HS
        go_wp2
        go_roundw
        case rel => exact ⟨k + 1, by omega, by go_num, HXR.out.trans HX3.out, by omega, p0, by rw [HS.out]; exact p1, pf, ⟨v0, pr0⟩, ⟨v1, pr1⟩, pg0, pg1⟩
        case measure => simp [intOf]; omega
    · obtain rfl : k = h := by omega
      go_wp2
      exact bodyPost_ret (v := .agg #[.int .i64 k, .int .i64 (mskS (ldB xs b) k)]) (by simp [results, Try.results96, go_sem, *]) rfl ⟨rfl, HXR.out.set (by simp) _ |>.set (by simp) _⟩
set_option maxHeartbeats 2000000 in
theorem l08Of_any (A : Option Addr) (n c : Nat) (xs : List Int) (b h : Nat) (w : World) (hI : Ints w A n xs) (hv : vpat xs = true) (hb : b ≤ 1000) (hh : h ≤ 20) :
    Calls Try.prog 88 #[.slice A n c, .int .i64 (b : Int), .int .i64 (h : Int)] w fun e w' => e = .returned (.agg #[.int .i64 h, .int .i64 (msk xs h b)]) ∧ Ext w w' := by
  have HI := Lib.hid hI
  have HV := Lib.hid hv
  have hn := (thr_iff.1 (vpat_thr hv)).2
  rw [hI.len] at hn
  clear hv
  go_enter Try.func88, Try.ntmps88
  go_wp2
  go_loopw [7, 8] (fun m i wr => ∃ k : Nat, k ≤ h ∧ i = .int .i64 k ∧ m = .int .i64 (mskS (ldB xs b) k) ∧ Ext w wr ∧ w.heap.size < wr.heap.size ∧ (∃ v0, wr.cell? ⟨w.heap.size, 0, none⟩ = some v0) ∧ (∃ v1, wr.cell? ⟨w.heap.size, 1, none⟩ = some v1) ∧ wr.frozen? ⟨w.heap.size, 0, none⟩ = false ∧ wr.frozen? ⟨w.heap.size, 1, none⟩ = false) (fun _ i _ => h - (intOf i).toNat)
  case atStart => exact ⟨0, Nat.zero_le _, rfl, rfl, (by with_reducible (repeat (first | exact Ext.refl _ | apply Ext.drewN | apply Ext.drew | apply Ext.alloc | (refine Ext.set ?_ (by first | (simp; done) | (simp; omega) | omega) _) | (refine Ext.trans ?_ (by assumption))))), by simp, ⟨_, by go_simp; rfl⟩, ⟨_, by go_simp; rfl⟩, by go_simp, by go_simp⟩
  case round =>
    obtain ⟨k, hk, rfl, rfl, hxr, hsz, ⟨v0, r0⟩, ⟨v1, r1⟩, g0, g1⟩ := hrel
    have HXR := Lib.hid hxr
    clear hxr
    by_cases hlt : k < h
    · have i1 : (k : Int) < h := by omega
      obtain ⟨f, hf⟩ : ∃ f, frm (thAt xs) ((b : Int) + k) = f := ⟨_, rfl⟩
      have HF := Lib.hid hf
      have HLD : Hid (ldB xs b k = decide (f < b)) := by show decide _ = _; rw [hf]
      have hadd := frm_add (thAt_endless HV.out) ((b : Int) + k)
      rw [hf] at hadd
      clear hf
      go_wp2_with fail
      (with_reducible refine (l02From_is _ _ _ xs _ _ (HI.out.ext (HXR.out.trans (by with_reducible (repeat (first | exact Ext.refl _ | apply Ext.drewN | apply Ext.drew | apply Ext.alloc | (refine Ext.set ?_ (by first | (simp; done) | (simp; omega) | omega) _) | (refine Ext.trans ?_ (by assumption))))))) HV.out (by omega) f HF.out).mono ?_)
      rintro e w3 ⟨rfl, hx3⟩
      have HX3 := Lib.hid hx3
      have hsz3 := hx3.size
      have pr0 := hx3.cell (by omega) r0
      have pr1 := hx3.cell (by omega) r1
      have pg0 : w3.frozen? ⟨w.heap.size, 0, none⟩ = false := (hx3.cells.2 _ _ (by omega)).trans g0
      have pg1 : w3.frozen? ⟨w.heap.size, 1, none⟩ = false := (hx3.cells.2 _ _ (by omega)).trans g1
      clear hx3
      by_cases hfb : f < b
      · have HS : Hid (mskS (ldB xs b) (k + 1) = bits .or .i64 (mskS (ldB xs b) k) (wrap64 (2 ^ k))) := mskS_yes (by rw [HLD.out]; exact decide_eq_true hfb)
        generalize mskS (ldB xs b) k = m at HS
        have hpos : 0 < thAt xs f := by omega
        have HAT := fun W => l02At_n A n c xs f W
        generalize thAt xs f = t at hpos hadd HAT
        go_wp2_with (go_at_call 67; (with_reducible refine (HAT _ (HI.out.ext (HXR.out.trans HX3.out)) (by omega)).mono ?_); rintro e w' ⟨rfl, rfl⟩)
        go_roundw
        case rel => exact ⟨k + 1, by omega, by go_num, by rw [HS.out], HXR.out.trans HX3.out, by omega, ⟨v0, pr0⟩, ⟨v1, pr1⟩, pg0, pg1⟩
        case measure => simp [intOf]; omega
      · have HS : Hid (mskS (ldB xs b) (k + 1) = mskS (ldB xs b) k) := mskS_no (by rw [HLD.out]; exact decide_eq_false hfb)
        generalize mskS (ldB xs b) k = m at HS
        clear hadd
        go_wp2
        go_roundw
        case rel => exact ⟨k + 1, by omega, by go_num, by rw [HS.out], HXR.out.trans HX3.out, by omega, ⟨v0, pr0⟩, ⟨v1, pr1⟩, pg0, pg1⟩
        case measure => simp [intOf]; omega
    · obtain rfl : k = h := by omega
      go_wp2
      exact bodyPost_ret (v := .agg #[.int .i64 k, .int .i64 (mskS (ldB xs b) k)]) (by simp [results, Try.results88, go_sem, *]) rfl ⟨rfl, HXR.out.set (by simp) _ |>.set (by simp) _⟩
end Go.Proofs.Ytbldhfmhipdniaa

namespace Go.Proofs.Ytbldhfmhipdniaa
set_option linter.unusedVariables false
set_option linter.unusedSimpArgs false
open Go.RowKit Go.Joins

theorem infoState : (Try.prog.info? 80).map (fun i => (i.zero, i.size, i.bytes)) = some (some (.agg #[.int .i64 0, .int .i64 0]), 2, 2 * 8) := by kernel_rfl
theorem elState : ElInfo Try.prog 80 2 := elInfo infoState rfl
/-- Heights and masks. -/
def stF (h : Int) (m : Nat → Int) : Nat → List Int
  | 0 => []
  | k + 1 => stF h m k ++ [h, m k]
theorem stF_len (h : Int) (m : Nat → Int) : ∀ k, (stF h m k).length = k * 2
  | 0 => rfl
  | k + 1 => by rw [stF, List.length_append, stF_len h m k]; simp; omega
theorem stF_at (h : Int) (m : Nat → Int) : ∀ (k i : Nat), i < k → (stF h m k)[i * 2]?.getD 0 = h ∧ (stF h m k)[i * 2 + 1]?.getD 0 = m i
  | 0, i, hi => absurd hi (by omega)
  | k + 1, i, hi => by
    have hl := stF_len h m k
    rw [stF]
    by_cases e : i = k
    · subst e
      rw [List.getElem?_append_right (by omega), List.getElem?_append_right (by omega), hl, show i * 2 - i * 2 = 0 by omega, show i * 2 + 1 - i * 2 = 1 by omega]
      simp
    · rw [List.getElem?_append_left (by omega), List.getElem?_append_left (by omega)]
      exact stF_at h m k i (by omega)
theorem stF_congr {h : Int} {m m' : Nat → Int} : ∀ {k : Nat}, (∀ i, i < k → m i = m' i) → stF h m k = stF h m' k
  | 0, _ => rfl
  | k + 1, e => by rw [stF, stF, stF_congr (fun i hi => e i (by omega)), e k (by omega)]
/-- No two of the first k are equal. -/
def NoRep (s : Nat → Int) (k : Nat) : Prop := ∀ b, b < k → ∀ a, a < b → s a ≠ s b
instance (s : Nat → Int) (k : Nat) : Decidable (NoRep s k) := by unfold NoRep; infer_instance
def nrp (s : Nat → Int) (n : Nat) : Bool := decide (NoRep s n)
/-- The states and the first once more. -/
def sN (s : Nat → Int) (n : Nat) (j : Nat) : Int := if j < n then s j else s 0
theorem sN_lt {s : Nat → Int} {n j : Nat} (h : j < n) : sN s n j = s j := if_pos h
theorem sN_at (s : Nat → Int) (n : Nat) : sN s n n = s 0 := if_neg (by omega)
theorem stF_ring (h : Int) (s : Nat → Int) (n : Nat) : stF h s n ++ [h, s 0] = stF h (sN s n) (n + 1) := by
  rw [stF, sN_at, stF_congr (m := sN s n) (m' := s) (fun i hi => sN_lt hi)]
theorem noRep_sN {s : Nat → Int} {n k : Nat} (hk : k ≤ n) : NoRep (sN s n) k ↔ NoRep s k := by
  constructor
  · intro h b hb a ha
    have := h b hb a ha
    rwa [sN_lt (by omega), sN_lt (by omega)] at this
  · intro h b hb a ha
    rw [sN_lt (by omega), sN_lt (by omega)]
    exact h b hb a ha
theorem NoRep.succ {s : Nat → Int} {k : Nat} (h : NoRep s k) (hk : ∀ a, a < k → s a ≠ s k) : NoRep s (k + 1) := fun b hb a ha => by
  by_cases e : b = k
  · subst e; exact hk a ha
  · exact h b (by omega) a ha
/-- The height of a pattern's own states. -/
def ownH (xs : List Int) : Nat := (max (hig xs xs.length) 1).toNat
def prm (xs : List Int) : Bool := nrp (msk xs (ownH xs)) xs.length
/-- Two beats are handed back. -/
def RetFR (w : World) (n : Nat) (v : Bool) (e : Ending) (w' : World) : Prop := ∃ i k : Int, e = .returned (.tuple #[.int .i64 i, .int .i64 k]) ∧ Hid ((k == (n : Int)) = v) ∧ Ext w w'
set_option maxHeartbeats 2000000 in
theorem statesOf_any (A : Option Addr) (n c : Nat) (xs : List Int) (h : Nat) (w : World) (hI : Ints w A n xs) (hv : vpat xs = true) (hh : h ≤ 20) :
    Calls Try.prog 91 #[.slice A n c, .int .i64 (h : Int)] w fun e w' => ∃ A1 c1, e = .returned (.slice A1 n c1) ∧ OwnR 80 2 w w' (.slice A1 n c1) n (stF h (msk xs h) n) := by
  have HT0 : Hid (∀ (wr : World) (v : Value), OwnR 80 2 w wr v n (stF h (msk xs h) n) → ∃ A1 c1, Ending.returned v = .returned (.slice A1 n c1) ∧ OwnR 80 2 w wr (.slice A1 n c1) n (stF h (msk xs h) n)) := fun wr v ho => by
    obtain ⟨A1, c1, rfl⟩ := ho.forms
    exact ⟨A1, c1, rfl, ho⟩
  have HI := Lib.hid hI
  have HV := Lib.hid hv
  have hn := (thr_iff.1 (vpat_thr hv)).2
  rw [hI.len] at hn
  have hE := Lib.hid (ownR_empty (Ext.refl w) 80 2)
  clear hv
  go_enter Try.func91, Try.ntmps91
  go_wp2_with (first | (go_at_call 56; (with_reducible refine (period_any _ _ _ _).mono ?_); rintro e w' ⟨rfl, rfl⟩) | fail)
  go_loopw [5, 10] (fun v i wr => ∃ k : Nat, k ≤ n ∧ i = .int .i64 k ∧ OwnR 80 2 w wr v k (stF h (msk xs h) k)) (fun _ i _ => n - (intOf i).toNat)
  case atStart => exact ⟨0, Nat.zero_le _, rfl, hE.out⟩
  case round =>
    obtain ⟨k, hk, rfl, hO⟩ := hrel
    have HO := Lib.hid hO
    clear hO
    by_cases hlt : k < n
    · have i1 : (k : Int) < n := by omega
      go_wp2_with fail
      (with_reducible refine (stateOf_any _ _ _ xs k h _ (HI.out.ext (HO.out.ext.trans (by with_reducible (repeat (first | exact Ext.refl _ | apply Ext.drewN | apply Ext.drew | apply Ext.alloc | (refine Ext.set ?_ (by first | (simp; done) | (simp; omega) | omega) _) | (refine Ext.trans ?_ (by assumption))))))) HV.out (by omega) hh).mono ?_)
      rintro e w3 ⟨rfl, hx3⟩
      have HX3 := Lib.hid hx3
      clear hx3
      go_wp2_with (at_builtin; refine appM elState (by omega) rfl _ _ Try.underlying77 rfl rfl (HO.out.trans (HX3.out.trans (by with_reducible (repeat (first | exact Ext.refl _ | apply Ext.drewN | apply Ext.drew | apply Ext.alloc | (refine Ext.set ?_ (by first | (simp; done) | (simp; omega) | omega) _) | (refine Ext.trans ?_ (by assumption))))))) (by omega) rfl (heap_alloc_new _ _) (ys := [(h : Int), msk xs h k]) (by rfl) (by rfl) ?_; intro v' w5 hO5; have HO5 := Lib.hid hO5; clear hO5)
      go_roundw
      case rel => exact ⟨k + 1, by omega, by go_num, HO5.out⟩
      case measure => simp [intOf]; omega
    · obtain rfl : k = n := by omega
      go_wp2
      go_ret
      exact HT0.out _ _ HO.out
set_option maxHeartbeats 2000000 in
theorem l08States_any (A : Option Addr) (n c : Nat) (xs : List Int) (h : Nat) (w : World) (hI : Ints w A n xs) (hv : vpat xs = true) (hh : h ≤ 20) :
    Calls Try.prog 68 #[.slice A n c, .int .i64 (h : Int)] w fun e w' => ∃ A1 c1, e = .returned (.slice A1 n c1) ∧ OwnR 80 2 w w' (.slice A1 n c1) n (stF h (msk xs h) n) := by
  have HT0 : Hid (∀ (wr : World) (v : Value), OwnR 80 2 w wr v n (stF h (msk xs h) n) → ∃ A1 c1, Ending.returned v = .returned (.slice A1 n c1) ∧ OwnR 80 2 w wr (.slice A1 n c1) n (stF h (msk xs h) n)) := fun wr v ho => by
    obtain ⟨A1, c1, rfl⟩ := ho.forms
    exact ⟨A1, c1, rfl, ho⟩
  have HI := Lib.hid hI
  have HV := Lib.hid hv
  have hn := (thr_iff.1 (vpat_thr hv)).2
  rw [hI.len] at hn
  have hE := Lib.hid (ownR_empty (Ext.refl w) 80 2)
  clear hv
  go_enter Try.func68, Try.ntmps68
  go_wp2_with (first | fail)
  go_loopw [5, 6] (fun v i wr => ∃ k : Nat, k ≤ n ∧ i = .int .i64 k ∧ OwnR 80 2 w wr v k (stF h (msk xs h) k)) (fun _ i _ => n - (intOf i).toNat)
  case atStart => exact ⟨0, Nat.zero_le _, rfl, hE.out⟩
  case round =>
    obtain ⟨k, hk, rfl, hO⟩ := hrel
    have HO := Lib.hid hO
    clear hO
    by_cases hlt : k < n
    · have i1 : (k : Int) < n := by omega
      go_wp2_with fail
      (with_reducible refine (l08Of_any _ _ _ xs k h _ (HI.out.ext (HO.out.ext.trans (by with_reducible (repeat (first | exact Ext.refl _ | apply Ext.drewN | apply Ext.drew | apply Ext.alloc | (refine Ext.set ?_ (by first | (simp; done) | (simp; omega) | omega) _) | (refine Ext.trans ?_ (by assumption))))))) HV.out (by omega) hh).mono ?_)
      rintro e w3 ⟨rfl, hx3⟩
      have HX3 := Lib.hid hx3
      clear hx3
      go_wp2_with (at_builtin; refine appM elState (by omega) rfl _ _ Try.underlying77 rfl rfl (HO.out.trans (HX3.out.trans (by with_reducible (repeat (first | exact Ext.refl _ | apply Ext.drewN | apply Ext.drew | apply Ext.alloc | (refine Ext.set ?_ (by first | (simp; done) | (simp; omega) | omega) _) | (refine Ext.trans ?_ (by assumption))))))) (by omega) rfl (heap_alloc_new _ _) (ys := [(h : Int), msk xs h k]) (by rfl) (by rfl) ?_; intro v' w5 hO5; have HO5 := Lib.hid hO5; clear hO5)
      go_roundw
      case rel => exact ⟨k + 1, by omega, by go_num, HO5.out⟩
      case measure => simp [intOf]; omega
    · obtain rfl : k = n := by omega
      go_wp2
      go_ret
      exact HT0.out _ _ HO.out
theorem hig_own {xs : List Int} (hv : vpat xs = true) : (max (hig xs xs.length) 1 = (ownH xs : Int)) ∧ ownH xs ≤ 15 := by
  have h := hig_bd (xs := xs) (k := xs.length) (thr_iff.1 (vpat_thr hv)).1
  unfold ownH
  omega
theorem ownStates_any (A : Option Addr) (n c : Nat) (xs : List Int) (w : World) (hI : Ints w A n xs) (hv : vpat xs = true) :
    Calls Try.prog 75 #[.slice A n c] w fun e w' => ∃ A1 c1, e = .returned (.slice A1 n c1) ∧ OwnR 80 2 w w' (.slice A1 n c1) n (stF (ownH xs) (msk xs (ownH xs)) n) := by
  have HI := Lib.hid hI
  have HV := Lib.hid hv
  obtain ⟨h1, h2⟩ := hig_own hv
  rw [hI.len] at h1
  have hm : (if hig xs n < 1 then (1 : Int) else hig xs n) = ownH xs := by rw [← h1]; split <;> omega
  clear hv h1
  go_enter Try.func75, Try.ntmps75
  go_wp2_with (first | (go_at_call 74; (with_reducible refine (highest_any _ _ _ xs _ HI.out HV.out).mono ?_); rintro e w' ⟨rfl, rfl⟩) | fail)
  (with_reducible refine (statesOf_any _ _ _ xs (ownH xs) _ (HI.out.ext (by with_reducible (repeat (first | exact Ext.refl _ | apply Ext.drewN | apply Ext.drew | apply Ext.alloc | (refine Ext.set ?_ (by first | (simp; done) | (simp; omega) | omega) _) | (refine Ext.trans ?_ (by assumption)))))) HV.out (by omega)).mono ?_)
  rintro e w2 ⟨A1, c1, rfl, ho⟩
  have HO := Lib.hid ho
  clear ho
  go_wp2
  go_ret
  exact ⟨A1, c1, rfl, HO.out.rebase (by with_reducible (repeat (first | exact Ext.refl _ | apply Ext.drewN | apply Ext.drew | apply Ext.alloc | (refine Ext.set ?_ (by first | (simp; done) | (simp; omega) | omega) _) | (refine Ext.trans ?_ (by assumption)))))⟩
end Go.Proofs.Ytbldhfmhipdniaa

namespace Go.Proofs.Ytbldhfmhipdniaa
set_option linter.unusedVariables false
set_option linter.unusedSimpArgs false
open Go.RowKit Go.Joins

set_option maxHeartbeats 4000000 in
theorem firstRepeat_any (A : Option Addr) (n c : Nat) (xs : List Int) (w : World) (hI : Ints w A n xs) (hv : vpat xs = true) :
    Calls Try.prog 60 #[.slice A n c] w (RetFR w n (nrp (msk xs (ownH xs)) n)) := by
  have HI := Lib.hid hI
  have HV := Lib.hid hv
  have hn := (thr_iff.1 (vpat_thr hv)).2
  rw [hI.len] at hn
  obtain ⟨h, hh⟩ : ∃ h, ownH xs = h := ⟨_, rfl⟩
  have HH := Lib.hid hh
  obtain ⟨s, hs⟩ : ∃ s, msk xs h = s := ⟨_, rfl⟩
  rw [hh, hs]
  have HS := Lib.hid hs
  clear hv hh hs
  go_enter Try.func60, Try.ntmps60
  go_wp2_with fail
  (with_reducible refine (ownStates_any _ _ _ xs _ (HI.out.ext (by with_reducible (repeat (first | exact Ext.refl _ | apply Ext.drewN | apply Ext.drew | apply Ext.alloc | (refine Ext.set ?_ (by first | (simp; done) | (simp; omega) | omega) _) | (refine Ext.trans ?_ (by assumption)))))) HV.out).mono ?_)
  rw [HH.out, HS.out]
  rintro e w1 ⟨A1, c1, rfl, O1⟩
  have HO1 := Lib.hid O1
  obtain ⟨g, rfl⟩ : ∃ g, A1 = some ⟨g, 0, none⟩ := by
    rcases O1.own.2 with ⟨_, e0⟩ | ⟨b, cap, cur, ev, _⟩
    · omega
    · simp only [Value.slice.injEq] at ev
      exact ⟨b, ev.1⟩
  have k0 := (O1.row.cellAt (p := 0) (by omega)).1
  have k1 := (O1.row.cellAt (p := 1) (by omega)).1
  rw [(stF_at h s n 0 (by omega)).1] at k0
  rw [(stF_at h s n 0 (by omega)).2] at k1
  have hn0 : (0 : Int) < n := by omega
  have hn1 : 0 < n := by omega
  clear O1
  go_wp2_with (at_builtin; refine appM elState (by omega) rfl _ _ Try.underlying77 rfl rfl (HO1.out.trans (by with_reducible (repeat (first | exact Ext.refl _ | apply Ext.drewN | apply Ext.drew | apply Ext.alloc | (refine Ext.set ?_ (by first | (simp; done) | (simp; omega) | omega) _) | (refine Ext.trans ?_ (by assumption)))))) (by omega) rfl (heap_alloc_new _ _) (ys := [(h : Int), s 0]) (by rfl) (by rfl) ?_; intro v' w2 hO2; obtain ⟨A2, c2, rfl⟩ := hO2.forms; have HO2 := Lib.hid hO2; clear hO2)
  have HR2 : Hid (Row w2 w.heap.size w2.heap.size 80 2 A2 (n + 1) c2 (stF h (sN s n) (n + 1))) := by
    have h1 := HO2.out.row
    rwa [stF_ring] at h1
  obtain ⟨g2, rfl⟩ : ∃ g2, A2 = some ⟨g2, 0, none⟩ := by
    rcases HO2.out.own.2 with ⟨_, e0⟩ | ⟨b, cap, cur, ev, _⟩
    · omega
    · simp only [Value.slice.injEq] at ev
      exact ⟨b, ev.1⟩
  clear k0 k1
  go_loopw [17] (fun i wr => ∃ k : Nat, k ≤ n ∧ i = .int .i64 k ∧ Qt w2 wr ∧ Hid (NoRep (sN s n) k)) (fun i _ => n + 1 - (intOf i).toNat)
  case atStart => exact ⟨0, Nat.zero_le _, rfl, Qt.refl _, fun b hb => absurd hb (by omega)⟩
  case round =>
    obtain ⟨k, hk, rfl, ⟨q, rfl⟩, HN⟩ := hrel
    have i1 : (k : Int) < (n : Int) + 1 := by omega
    obtain ⟨wo, hwo⟩ : ∃ wo, w2.drewN q = wo := ⟨_, rfl⟩
    have HWO : Hid (Qt w2 wo) := ⟨q, hwo.symm⟩
    have HRO : Hid (Row wo w.heap.size w2.heap.size 80 2 (some ⟨g2, 0, none⟩) (n + 1) c2 (stF h (sN s n) (n + 1))) := by
      rw [← hwo]
      exact HR2.out.ext ((Ext.refl _).drewN q)
    rw [hwo]
    clear hwo
    obtain ⟨c0, _⟩ := HRO.out.cellAt (p := k * 2) (by omega)
    obtain ⟨d0, _⟩ := HRO.out.cellAt (p := k * 2 + 1) (by omega)
    rw [(stF_at h (sN s n) (n + 1) k (by omega)).1] at c0
    rw [(stF_at h (sN s n) (n + 1) k (by omega)).2] at d0
    obtain ⟨y, hy⟩ : ∃ y, sN s n k = y := ⟨_, rfl⟩
    rw [hy] at d0
    have HY := Lib.hid hy
    clear hy
    go_wp2
    go_loopw [21] (fun i wr => ∃ j : Nat, j ≤ k ∧ i = .int .i64 j ∧ Qt wo wr ∧ Hid (∀ a, a < j → sN s n a ≠ sN s n k)) (fun i _ => k - (intOf i).toNat)
    case atStart => exact ⟨0, Nat.zero_le _, rfl, Qt.refl _, fun a ha => absurd ha (by omega)⟩
    case round =>
      obtain ⟨j, hj, rfl, ⟨q2, rfl⟩, HM⟩ := hrel
      by_cases hlt : j < k
      · have i2 : (j : Int) < k := by omega
        have i3 : (j : Int) < (n : Int) + 1 := by omega
        have i4 : (0 : Int) ≤ j := by omega
        have i5 : (0 : Int) ≤ k := by omega
        obtain ⟨a0, _⟩ := HRO.out.cellAt (p := j * 2) (by omega)
        obtain ⟨b0, _⟩ := HRO.out.cellAt (p := j * 2 + 1) (by omega)
        rw [(stF_at h (sN s n) (n + 1) j (by omega)).1] at a0
        rw [(stF_at h (sN s n) (n + 1) j (by omega)).2] at b0
        obtain ⟨x, hx⟩ : ∃ x, sN s n j = x := ⟨_, rfl⟩
        rw [hx] at b0
        have HX := Lib.hid hx
        clear hx
        by_cases hxy : x = y
        · have HV2 : Hid (∃ v, v = nrp s n ∧ (((k : Int) == (n : Int)) = v)) := by
            refine ⟨_, rfl, ?_⟩
            by_cases hkn : k < n
            · have h1 : nrp s n = false := by
                refine decide_eq_false (fun h2 => ?_)
                have h3 := h2 k hkn j hlt
                rw [← sN_lt (s := s) hkn, ← sN_lt (s := s) (show j < n by omega), HX.out, HY.out] at h3
                exact h3 hxy
              rw [h1]
              simp
              omega
            · obtain rfl : k = n := by omega
              have h1 : nrp s k = true := decide_eq_true ((noRep_sN (Nat.le_refl _)).1 HN.out)
              rw [h1]
              simp
          have HF : Hid (∀ W, Ext wo W → RetFR w n (nrp s n) (.returned (.tuple #[.int .i64 j, .int .i64 k])) W) := fun W kx => by
            obtain ⟨v, hv1, hv2⟩ := HV2.out
            obtain ⟨qa, hqa⟩ := HWO.out
            refine ⟨j, k, rfl, by rw [← hv1]; exact Lib.hid hv2, ?_⟩
            refine (HO2.out.ext.trans ?_).trans kx
            rw [hqa]
            exact (Ext.refl _).drewN qa
          subst hxy
          go_wp2
          go_quiet (fail)
          go_wp2
          go_ret2
          exact HF.out _ (by with_reducible (repeat (first | exact Ext.refl _ | apply Ext.drewN | apply Ext.drew | apply Ext.alloc | (refine Ext.set ?_ (by first | (simp; done) | (simp; omega) | omega) _) | (refine Ext.trans ?_ (by assumption)))))
        · have HM2 : Hid (∀ a, a < j + 1 → sN s n a ≠ sN s n k) := fun a ha => by
            by_cases e : a = j
            · subst e; rw [HX.out, HY.out]; exact hxy
            · exact HM.out a (by omega)
          have hxe : (x == y) = false := by simpa using hxy
          clear hxy
          go_wp2
          go_quiet (fail)
          go_wp2
          go_roundw
          case rel => exact ⟨j + 1, by omega, by go_num, (by first | exact ⟨_, rfl⟩ | exact ⟨_, World.drewN_drewN _ _ _⟩), HM2⟩
          case measure => simp [intOf]; omega
      · obtain rfl : j = k := by omega
        have hjn : j < n := by
          rcases Nat.lt_or_ge j n with h1 | h1
          · exact h1
          · obtain rfl : j = n := by omega
            exact absurd (by rw [sN_at, sN_lt hn1]) (HM.out 0 hn1)
        have HN2 : Hid (NoRep (sN s n) (j + 1)) := HN.out.succ HM.out
        have HQW : Hid (Qt w2 (wo.drewN q2)) := by
          obtain ⟨qa, hqa⟩ := HWO.out
          exact ⟨qa + q2, by rw [hqa, World.drewN_drewN]⟩
        go_wp2
        go_roundw
        case rel => exact ⟨j + 1, by omega, by go_num, HQW.out, HN2⟩
        case measure => simp [intOf]; omega
theorem isLow_yes (A : Option Addr) (n c : Nat) (xs : List Int) (w : World) (hI : Ints w A n xs) (hv : vpat xs = true) (hg : hig xs n ≤ 10) :
    Calls Try.prog 59 #[.slice A n c] w fun e w' => e = .returned (.bool true) ∧ Ext w w' := by
  have HI := Lib.hid hI
  have HV := Lib.hid hv
  clear hv
  go_enter Try.func59, Try.ntmps59
  go_wp2_with fail
  (with_reducible refine (ValidPattern_is A n c xs true HV.out _ (HI.out.ext (by with_reducible (repeat (first | exact Ext.refl _ | apply Ext.drewN | apply Ext.drew | apply Ext.alloc | (refine Ext.set ?_ (by first | (simp; done) | (simp; omega) | omega) _) | (refine Ext.trans ?_ (by assumption))))))).mono ?_)
  rintro e w1 ⟨rfl, hx1⟩
  have HX1 : Hid (Ext w w1) := Ext.trans (by with_reducible (repeat (first | exact Ext.refl _ | apply Ext.drewN | apply Ext.drew | apply Ext.alloc | (refine Ext.set ?_ (by first | (simp; done) | (simp; omega) | omega) _) | (refine Ext.trans ?_ (by assumption))))) hx1
  clear hx1
  go_wp2_with (first | (go_at_call 74; (with_reducible refine (highest_any _ _ _ xs _ (HI.out.ext HX1.out) HV.out).mono ?_); rintro e w' ⟨rfl, rfl⟩) | fail)
  go_ret
  exact ⟨rfl, HX1.out⟩
theorem implIsPrime_any (A : Option Addr) (n c : Nat) (xs : List Int) (w : World) (hI : Ints w A n xs) (hv : vpat xs = true) (hg : hig xs n ≤ 10) :
    Calls Try.prog 42 #[.slice A n c] w fun e w' => e = .returned (.bool (prm xs)) ∧ Ext w w' := by
  have HI := Lib.hid hI
  have HV := Lib.hid hv
  have HG := Lib.hid hg
  have HP : Hid (prm xs = nrp (msk xs (ownH xs)) n) := by show _ = _; unfold prm; rw [hI.len]
  clear hv hg
  go_enter Try.func42, Try.ntmps42
  go_wp2_with fail
  (with_reducible refine (isLow_yes A n c xs _ (HI.out.ext (by with_reducible (repeat (first | exact Ext.refl _ | apply Ext.drewN | apply Ext.drew | apply Ext.alloc | (refine Ext.set ?_ (by first | (simp; done) | (simp; omega) | omega) _) | (refine Ext.trans ?_ (by assumption)))))) HV.out HG.out).mono ?_)
  rintro e w1 ⟨rfl, hx1⟩
  have HX1 : Hid (Ext w w1) := Ext.trans (by with_reducible (repeat (first | exact Ext.refl _ | apply Ext.drewN | apply Ext.drew | apply Ext.alloc | (refine Ext.set ?_ (by first | (simp; done) | (simp; omega) | omega) _) | (refine Ext.trans ?_ (by assumption))))) hx1
  clear hx1
  go_wp2_with fail
  (with_reducible refine (firstRepeat_any A n c xs _ (HI.out.ext (HX1.out.trans (by with_reducible (repeat (first | exact Ext.refl _ | apply Ext.drewN | apply Ext.drew | apply Ext.alloc | (refine Ext.set ?_ (by first | (simp; done) | (simp; omega) | omega) _) | (refine Ext.trans ?_ (by assumption))))))) HV.out).mono ?_)
  rintro e w2 ⟨i, k, rfl, hk, hx2⟩
  have HX2 : Hid (Ext w1 w2) := Ext.trans (by with_reducible (repeat (first | exact Ext.refl _ | apply Ext.drewN | apply Ext.drew | apply Ext.alloc | (refine Ext.set ?_ (by first | (simp; done) | (simp; omega) | omega) _) | (refine Ext.trans ?_ (by assumption))))) hx2
  have HK := Lib.hid hk.out
  clear hk hx2
  obtain ⟨v, hv⟩ : ∃ v, nrp (msk xs (ownH xs)) n = v := ⟨_, rfl⟩
  have HVV := Lib.hid hv
  have hk2 : (k == (n : Int)) = v := by rw [HK.out, hv]
  clear hv
  cases v
  · go_wp2
    go_ret
    exact ⟨ret_bool (by rw [HP.out, HVV.out]), HX1.out.trans (HX2.out.trans (by with_reducible (repeat (first | exact Ext.refl _ | apply Ext.drewN | apply Ext.drew | apply Ext.alloc | (refine Ext.set ?_ (by first | (simp; done) | (simp; omega) | omega) _) | (refine Ext.trans ?_ (by assumption))))))⟩
  · obtain rfl : k = n := by simpa using hk2
    clear hk2
    go_wp2
    go_ret
    exact ⟨ret_bool (by rw [HP.out, HVV.out]), HX1.out.trans (HX2.out.trans (by with_reducible (repeat (first | exact Ext.refl _ | apply Ext.drewN | apply Ext.drew | apply Ext.alloc | (refine Ext.set ?_ (by first | (simp; done) | (simp; omega) | omega) _) | (refine Ext.trans ?_ (by assumption))))))⟩
theorem l11Height_any (A : Option Addr) (n c : Nat) (xs : List Int) (w : World) (hI : Ints w A n xs) (hv : vpat xs = true) :
    Calls Try.prog 69 #[.slice A n c] w fun e w' => e = .returned (.int .i64 (ownH xs : Int)) ∧ w = w' := by
  have HI := Lib.hid hI
  have HV := Lib.hid hv
  obtain ⟨h1, h2⟩ := hig_own hv
  rw [hI.len] at h1
  have HM : Hid (cmf 1 (hig xs n) = (ownH xs : Int)) := by show _ = _; rw [← h1]; unfold cmf; split <;> omega
  clear hv h1
  go_enter Try.func69, Try.ntmps69
  go_wp2_with (first | (go_at_call 27; (with_reducible refine (l02High_any _ _ _ xs _ HI.out HV.out).mono ?_); rintro e w' ⟨rfl, rfl⟩) | (go_at_call 50; (with_reducible refine (l00Max_any _ _ _).mono ?_); rintro e w' ⟨rfl, rfl⟩))
  go_ret
  exact ⟨ret_int HM.out, rfl⟩
set_option maxHeartbeats 4000000 in
theorem l11Repeat_any (A : Option Addr) (n c : Nat) (xs : List Int) (w : World) (hI : Ints w A n xs) (hv : vpat xs = true) :
    Calls Try.prog 51 #[.slice A n c] w (RetFR w n (nrp (msk xs (ownH xs)) n)) := by
  have HI := Lib.hid hI
  have HV := Lib.hid hv
  have hn := (thr_iff.1 (vpat_thr hv)).2
  rw [hI.len] at hn
  have hh15 := (hig_own hv).2
  have HLH := fun W => l11Height_any A n c xs W
  have HLS := fun W => l08States_any A n c xs (ownH xs) W
  obtain ⟨h, hh⟩ : ∃ h, ownH xs = h := ⟨_, rfl⟩
  rw [hh] at HLH HLS hh15
  obtain ⟨s, hs⟩ : ∃ s, msk xs h = s := ⟨_, rfl⟩
  rw [hs] at HLS
  rw [hh, hs]
  have HLS2 := Lib.hid HLS
  clear hv hh hs HLS
  go_enter Try.func51, Try.ntmps51
  go_wp2_with (first | (go_at_call 69; (with_reducible refine (HLH _ HI.out HV.out).mono ?_); rintro e w' ⟨rfl, rfl⟩) | fail)
  (with_reducible refine (HLS2.out _ (HI.out.ext (by with_reducible (repeat (first | exact Ext.refl _ | apply Ext.drewN | apply Ext.drew | apply Ext.alloc | (refine Ext.set ?_ (by first | (simp; done) | (simp; omega) | omega) _) | (refine Ext.trans ?_ (by assumption)))))) HV.out (by omega)).mono ?_)
  rintro e w2 ⟨A2, c2, rfl, O2⟩
  have HX2 : Hid (Ext w w2) := Ext.trans (by with_reducible (repeat (first | exact Ext.refl _ | apply Ext.drewN | apply Ext.drew | apply Ext.alloc | (refine Ext.set ?_ (by first | (simp; done) | (simp; omega) | omega) _) | (refine Ext.trans ?_ (by assumption))))) O2.ext
  obtain ⟨lo, hR⟩ : ∃ lo, Row w2 lo w2.heap.size 80 2 A2 n c2 (stF h s n) := ⟨_, O2.row⟩
  have HR2 := Lib.hid hR
  obtain ⟨g2, rfl⟩ : ∃ g2, A2 = some ⟨g2, 0, none⟩ := by
    rcases O2.own.2 with ⟨_, e0⟩ | ⟨b, cap, cur, ev, _⟩
    · omega
    · simp only [Value.slice.injEq] at ev
      exact ⟨b, ev.1⟩
  clear O2 hR HLH
  go_wp2
  go_loopw [5] (fun i wr => ∃ k : Nat, 1 ≤ k ∧ k ≤ n ∧ i = .int .i64 k ∧ Qt w2 wr ∧ Hid (NoRep s k)) (fun i _ => n - (intOf i).toNat)
  case atStart => exact ⟨1, Nat.le_refl _, hn.1, rfl, Qt.refl _, fun b hb a ha => absurd ha (by omega)⟩
  case round =>
    obtain ⟨k, hk1, hk, rfl, ⟨q, rfl⟩, HN⟩ := hrel
    by_cases hkn : k < n
    · have i1 : (k : Int) < n := by omega
      obtain ⟨wo, hwo⟩ : ∃ wo, w2.drewN q = wo := ⟨_, rfl⟩
      have HWO : Hid (Qt w2 wo) := ⟨q, hwo.symm⟩
      have HRO : Hid (Row wo lo w2.heap.size 80 2 (some ⟨g2, 0, none⟩) n c2 (stF h s n)) := by
        rw [← hwo]
        exact HR2.out.ext ((Ext.refl _).drewN q)
      rw [hwo]
      clear hwo
      obtain ⟨c0, _⟩ := HRO.out.cellAt (p := k * 2) (by omega)
      obtain ⟨d0, _⟩ := HRO.out.cellAt (p := k * 2 + 1) (by omega)
      rw [(stF_at h s n k (by omega)).1] at c0
      rw [(stF_at h s n k (by omega)).2] at d0
      obtain ⟨y, hy⟩ : ∃ y, s k = y := ⟨_, rfl⟩
      rw [hy] at d0
      have HY := Lib.hid hy
      clear hy
      go_wp2
      go_loopw [6] (fun i wr => ∃ j : Nat, j ≤ k ∧ i = .int .i64 j ∧ Qt wo wr ∧ Hid (∀ a, a < j → s a ≠ s k)) (fun i _ => k - (intOf i).toNat)
      case atStart => exact ⟨0, Nat.zero_le _, rfl, Qt.refl _, fun a ha => absurd ha (by omega)⟩
      case round =>
        obtain ⟨j, hj, rfl, ⟨q2, rfl⟩, HM⟩ := hrel
        by_cases hlt : j < k
        · have i2 : (j : Int) < k := by omega
          have i3 : (j : Int) < (n : Int) := by omega
          have i4 : (0 : Int) ≤ j := by omega
          have i5 : (0 : Int) ≤ k := by omega
          obtain ⟨a0, _⟩ := HRO.out.cellAt (p := j * 2) (by omega)
          obtain ⟨b0, _⟩ := HRO.out.cellAt (p := j * 2 + 1) (by omega)
          rw [(stF_at h s n j (by omega)).1] at a0
          rw [(stF_at h s n j (by omega)).2] at b0
          obtain ⟨x, hx⟩ : ∃ x, s j = x := ⟨_, rfl⟩
          rw [hx] at b0
          have HX := Lib.hid hx
          clear hx
          by_cases hxy : x = y
          · have HF : Hid (∀ W, Ext wo W → RetFR w n (nrp s n) (.returned (.tuple #[.int .i64 j, .int .i64 k])) W) := fun W kx => by
              obtain ⟨qa, hqa⟩ := HWO.out
              refine ⟨j, k, rfl, ?_, ?_⟩
              · show _ = _
                have h1 : nrp s n = false := decide_eq_false (fun h2 => h2 k hkn j hlt (by rw [HX.out, HY.out]; exact hxy))
                rw [h1]
                simp
                omega
              · refine (HX2.out.trans ?_).trans kx
                rw [hqa]
                exact (Ext.refl _).drewN qa
            subst hxy
            go_wp2
            go_quiet (fail)
            go_wp2
            go_ret2
            exact HF.out _ (by with_reducible (repeat (first | exact Ext.refl _ | apply Ext.drewN | apply Ext.drew | apply Ext.alloc | (refine Ext.set ?_ (by first | (simp; done) | (simp; omega) | omega) _) | (refine Ext.trans ?_ (by assumption)))))
          · have HM2 : Hid (∀ a, a < j + 1 → s a ≠ s k) := fun a ha => by
              by_cases e : a = j
              · subst e; rw [HX.out, HY.out]; exact hxy
              · exact HM.out a (by omega)
            have hxe : (x == y) = false := by simpa using hxy
            clear hxy
            go_wp2
            go_quiet (fail)
            go_wp2
            go_roundw
            case rel => exact ⟨j + 1, by omega, by go_num, (by first | exact ⟨_, rfl⟩ | exact ⟨_, World.drewN_drewN _ _ _⟩), HM2⟩
            case measure => simp [intOf]; omega
        · obtain rfl : j = k := by omega
          have HN2 : Hid (NoRep s (j + 1)) := HN.out.succ HM.out
          have HQW : Hid (Qt w2 (wo.drewN q2)) := by
            obtain ⟨qa, hqa⟩ := HWO.out
            exact ⟨qa + q2, by rw [hqa, World.drewN_drewN]⟩
          go_wp2
          go_roundw
          case rel => exact ⟨j + 1, by omega, by omega, by go_num, HQW.out, HN2⟩
          case measure => simp [intOf]; omega
    · obtain rfl : k = n := by omega
      have HF : Hid (RetFR w k (nrp s k) (.returned (.tuple #[.int .i64 0, .int .i64 k])) (w2.drewN q)) := by
        refine ⟨0, k, rfl, ?_, HX2.out.trans ((Ext.refl _).drewN q)⟩
        show _ = _
        rw [show nrp s k = true from decide_eq_true HN.out]
        simp
      go_wp2
      go_ret2
      exact HF.out
theorem l11Prime_any (A : Option Addr) (n c : Nat) (xs : List Int) (w : World) (hI : Ints w A n xs) (hv : vpat xs = true) :
    Calls Try.prog 29 #[.slice A n c] w fun e w' => e = .returned (.bool (prm xs)) ∧ Ext w w' := by
  have HI := Lib.hid hI
  have HV := Lib.hid hv
  have HP : Hid (prm xs = nrp (msk xs (ownH xs)) n) := by show _ = _; unfold prm; rw [hI.len]
  have hn := (thr_iff.1 (vpat_thr hv)).2
  rw [hI.len] at hn
  clear hv
  go_enter Try.func29, Try.ntmps29
  go_wp2_with fail
  (with_reducible refine (l11Repeat_any A n c xs _ (HI.out.ext (by with_reducible (repeat (first | exact Ext.refl _ | apply Ext.drewN | apply Ext.drew | apply Ext.alloc | (refine Ext.set ?_ (by first | (simp; done) | (simp; omega) | omega) _) | (refine Ext.trans ?_ (by assumption)))))) HV.out).mono ?_)
  rintro e w2 ⟨i, k, rfl, hk, hx2⟩
  have HX2 : Hid (Ext w w2) := Ext.trans (by with_reducible (repeat (first | exact Ext.refl _ | apply Ext.drewN | apply Ext.drew | apply Ext.alloc | (refine Ext.set ?_ (by first | (simp; done) | (simp; omega) | omega) _) | (refine Ext.trans ?_ (by assumption))))) hx2
  have HK := Lib.hid hk.out
  clear hk hx2
  obtain ⟨v, hv⟩ : ∃ v, nrp (msk xs (ownH xs)) n = v := ⟨_, rfl⟩
  have HVV := Lib.hid hv
  have hk2 : (k == (n : Int)) = v := by rw [HK.out, hv]
  clear hv
  cases v
  · go_wp2
    go_ret
    exact ⟨ret_bool (by rw [HP.out, HVV.out]), HX2.out.trans (by with_reducible (repeat (first | exact Ext.refl _ | apply Ext.drewN | apply Ext.drew | apply Ext.alloc | (refine Ext.set ?_ (by first | (simp; done) | (simp; omega) | omega) _) | (refine Ext.trans ?_ (by assumption)))))⟩
  · obtain rfl : k = n := by simpa using hk2
    clear hk2
    go_wp2
    go_ret
    exact ⟨ret_bool (by rw [HP.out, HVV.out]), HX2.out.trans (by with_reducible (repeat (first | exact Ext.refl _ | apply Ext.drewN | apply Ext.drew | apply Ext.alloc | (refine Ext.set ?_ (by first | (simp; done) | (simp; omega) | omega) _) | (refine Ext.trans ?_ (by assumption)))))⟩
theorem l11Code_zero (A : Option Addr) (n c : Nat) (xs : List Int) (w : World) (hI : Ints w A n xs) (hv : vpat xs = true) (hg : hig xs n ≤ 10) :
    Calls Try.prog 28 #[.slice A n c] w fun e w' => e = .returned (.int .i64 0) ∧ Ext w w' := by
  have HI := Lib.hid hI
  have HV := Lib.hid hv
  have hg2 : ¬ (10 : Int) < hig xs n := by omega
  clear hv hg
  go_enter Try.func28, Try.ntmps28
  go_wp2_with fail
  (with_reducible refine (l02Ok_is A n c xs true HV.out _ (HI.out.ext (by with_reducible (repeat (first | exact Ext.refl _ | apply Ext.drewN | apply Ext.drew | apply Ext.alloc | (refine Ext.set ?_ (by first | (simp; done) | (simp; omega) | omega) _) | (refine Ext.trans ?_ (by assumption))))))).mono ?_)
  rintro e w1 ⟨rfl, q1, rfl⟩
  have HX1 : Hid (Ext w (w.drewN q1)) := (Ext.refl _).drewN q1
  go_wp2_with (first | (go_at_call 27; (with_reducible refine (l02High_any _ _ _ xs _ (HI.out.ext HX1.out) HV.out).mono ?_); rintro e w' ⟨rfl, rfl⟩) | fail)
  go_ret
  exact ⟨rfl, HX1.out⟩
theorem specIsPrime_any (A : Option Addr) (n c : Nat) (xs : List Int) (w : World) (hI : Ints w A n xs) (hv : vpat xs = true) (hg : hig xs n ≤ 10) :
    Calls Try.prog 13 #[.slice A n c] w fun e w' => e = .returned (.bool (prm xs)) ∧ Ext w w' := by
  have HI := Lib.hid hI
  have HV := Lib.hid hv
  have HG := Lib.hid hg
  clear hv hg
  go_enter Try.func13, Try.ntmps13
  go_wp2_with fail
  (with_reducible refine (l11Code_zero A n c xs _ (HI.out.ext (by with_reducible (repeat (first | exact Ext.refl _ | apply Ext.drewN | apply Ext.drew | apply Ext.alloc | (refine Ext.set ?_ (by first | (simp; done) | (simp; omega) | omega) _) | (refine Ext.trans ?_ (by assumption)))))) HV.out HG.out).mono ?_)
  rintro e w1 ⟨rfl, hx1⟩
  have HX1 : Hid (Ext w w1) := Ext.trans (by with_reducible (repeat (first | exact Ext.refl _ | apply Ext.drewN | apply Ext.drew | apply Ext.alloc | (refine Ext.set ?_ (by first | (simp; done) | (simp; omega) | omega) _) | (refine Ext.trans ?_ (by assumption))))) hx1
  clear hx1
  go_wp2_with fail
  (with_reducible refine (l11Prime_any A n c xs _ (HI.out.ext (HX1.out.trans (by with_reducible (repeat (first | exact Ext.refl _ | apply Ext.drewN | apply Ext.drew | apply Ext.alloc | (refine Ext.set ?_ (by first | (simp; done) | (simp; omega) | omega) _) | (refine Ext.trans ?_ (by assumption))))))) HV.out).mono ?_)
  rintro e w2 ⟨rfl, hx2⟩
  have HX2 : Hid (Ext w1 w2) := Ext.trans (by with_reducible (repeat (first | exact Ext.refl _ | apply Ext.drewN | apply Ext.drew | apply Ext.alloc | (refine Ext.set ?_ (by first | (simp; done) | (simp; omega) | omega) _) | (refine Ext.trans ?_ (by assumption))))) hx2
  clear hx2
  go_wp2
  go_ret
  exact ⟨rfl, HX1.out.trans HX2.out⟩
end Go.Proofs.Ytbldhfmhipdniaa
