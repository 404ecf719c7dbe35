/- Contracts of RoutineText, the program's and the reference's, under the library's table of powers. -/
import Derived.Test.YtinkaglngblddaaDoorVrt
import Derived.Test.YtinkaglngblddaaDoorPtx
import Derived.Test.YtinkaglngblddaaDoorTxt
namespace Go.Proofs.YtinkaglngblddaaDoor
set_option linter.unusedVariables false
set_option linter.unusedSimpArgs false
open Go.RowKit Go.Joins

/-- The text of a routine as far as its first k parts. -/
def rtx (h : Int) (ps : List (List Int × Int)) : Nat → ByteArray
  | 0 => dec h ++ ⟨#[58]⟩
  | k + 1 => rtx h ps k ++ (((⟨#[32]⟩ : ByteArray) ++ ptx (pt ps k) ++ ⟨#[42]⟩) ++ dec (tm ps k))
theorem vrt_parts {h : Int} {ps : List (List Int × Int)} (hv : vrt h ps) {n : Nat} (hn : ps.length = n) : (1 ≤ h ∧ h ≤ 10) ∧ (1 ≤ n ∧ n ≤ 8) ∧ ∀ k, k < n → vpat (pt ps k) = true ∧ (1 ≤ tm ps k ∧ tm ps k ≤ 20) := by
  obtain ⟨h1, h2, h3⟩ := hv
  rw [hn] at h2 h3
  have h2' := btw_iff.1 h2
  refine ⟨btw_iff.1 h1, by omega, fun k hk => ?_⟩
  have h4 := (h3 k hk).1
  refine ⟨vprt_pat h4, ?_⟩
  unfold vprt at h4
  simp only [Bool.and_eq_true] at h4
  exact btw_iff.1 h4.2.2
set_option maxHeartbeats 4000000 in
set_option maxRecDepth 100000 in
theorem implRoutineText_no (A : Option Addr) (n c : Nat) (ps : List (List Int × Int)) (h : Int) (w : World) (hP : Parts w A n ps) (hv : ¬ vrt h ps) :
    Calls Tryd.prog 9 #[.agg #[.int .i64 h, .slice A n c]] w fun e w' => e = .returned (.string ⟨#[]⟩) ∧ Ext w w' := by
  go_enter Tryd.func9, Tryd.ntmps9
  go_wp2_with fail
  (with_reducible refine (implValidRoutine_is A n c ps h _ (hP.ext (by with_reducible (repeat (first | exact Ext.refl _ | apply Ext.drewN | apply Ext.drew | apply Ext.alloc | (refine Ext.set ?_ (by first | (simp; done) | (simp; omega) | omega) _) | (refine Ext.trans ?_ (by assumption)))))) false ⟨(fun e => by cases e), fun e => absurd e hv⟩).mono ?_)
  rintro e w1 ⟨rfl, hx⟩
  go_wp2
  go_ret
  exact ⟨rfl, Ext.trans (by with_reducible (repeat (first | exact Ext.refl _ | apply Ext.drewN | apply Ext.drew | apply Ext.alloc | (refine Ext.set ?_ (by first | (simp; done) | (simp; omega) | omega) _) | (refine Ext.trans ?_ (by assumption))))) hx⟩
set_option maxHeartbeats 4000000 in
set_option maxRecDepth 100000 in
theorem implRoutineText_yes (A : Option Addr) (n c : Nat) (ps : List (List Int × Int)) (h : Int) (w : World) (hP : Parts w A n ps) (hv : vrt h ps) (hT : Tab w) :
    Calls Tryd.prog 9 #[.agg #[.int .i64 h, .slice A n c]] w fun e w' => e = .returned (.string (rtx h ps n)) ∧ Ext w w' := by
  have HLN := Lib.hid hP.len
  obtain ⟨hh, hn, hpt⟩ := vrt_parts hv HLN.out
  have HPT := Lib.hid hpt
  clear hpt
  have hs1 := dec_size (n := h) (by omega)
  obtain ⟨sh, hsh⟩ : ∃ s, dec h = s := ⟨_, rfl⟩
  rw [hsh] at hs1
  have HSH := Lib.hid hsh
  clear hsh
  have ch := fun W hW => (DecimalT_any h (by omega) W hW : Calls Tryd.prog 26 #[.int .i64 h] W _)
  rw [HSH.out] at ch
  have CH := Lib.hid ch
  clear ch
  go_enter Tryd.func9, Tryd.ntmps9
  go_wp2_with fail
  (with_reducible refine (implValidRoutine_is A n c ps h _ (hP.ext (by with_reducible (repeat (first | exact Ext.refl _ | apply Ext.drewN | apply Ext.drew | apply Ext.alloc | (refine Ext.set ?_ (by first | (simp; done) | (simp; omega) | omega) _) | (refine Ext.trans ?_ (by assumption)))))) true ⟨fun _ => hv, fun _ => rfl⟩).mono ?_)
  rintro e w1 ⟨rfl, hx1⟩
  have hz1 := hx1.size
  (try simp at hz1)
  have hq1 : w.heap.size < w1.heap.size := by omega
  have hc1 : ∀ o, w1.cell? ⟨w.heap.size, o, none⟩ = _ := fun o => hx1.cells.1 _ o (by first | (simp; done) | (simp; omega) | omega)
  have hE1 : Ext w w1 := Ext.trans (by with_reducible (repeat (first | exact Ext.refl _ | apply Ext.drewN | apply Ext.drew | apply Ext.alloc | (refine Ext.set ?_ (by first | (simp; done) | (simp; omega) | omega) _) | (refine Ext.trans ?_ (by assumption))))) hx1
  go_wp2_with fail
  (with_reducible refine (CH.out _ (hT.ext (Ext.trans (by with_reducible (repeat (first | exact Ext.refl _ | apply Ext.drewN | apply Ext.drew | apply Ext.alloc | (refine Ext.set ?_ (by first | (simp; done) | (simp; omega) | omega) _) | (refine Ext.trans ?_ (by assumption))))) hx1))).mono ?_)
  rintro e w2 ⟨rfl, hx2⟩
  have hz2 := hx2.size
  (try simp at hz2)
  have hq2 : w.heap.size < w2.heap.size := by omega
  have hc2 : ∀ o, w2.cell? ⟨w.heap.size, o, none⟩ = _ := fun o => hx2.cells.1 _ o (by first | (simp; done) | (simp; omega) | omega)
  have hE2 : Ext w w2 := hE1.trans (Ext.trans (by with_reducible (repeat (first | exact Ext.refl _ | apply Ext.drewN | apply Ext.drew | apply Ext.alloc | (refine Ext.set ?_ (by first | (simp; done) | (simp; omega) | omega) _) | (refine Ext.trans ?_ (by assumption))))) hx2)
  have hss : ¬ 9223372036854775807 < sh.size + 1 := by omega
  have hHV := Lib.hid hv
  clear hv
  go_wp2
  go_loopw [3, 5, 16] (fun v _ i wr => ∃ (k : Nat) (s : ByteArray), k ≤ n ∧ i = .int .i64 k ∧ v = .string s ∧ Hid (s = rtx h ps k) ∧ s.size ≤ 22 + 40 * k ∧ Ext w2 wr) (fun _ _ i _ => n - (intOf i).toNat)
  case atStart => exact ⟨0, _, Nat.zero_le _, rfl, rfl, (by show _ = _; unfold rtx; rw [HSH.out]), (by rw [ByteArray.size_append]; show sh.size + 1 ≤ _; omega), Ext.refl _⟩
  case round =>
    obtain ⟨k, s, hk, rfl, rfl, HS, hsz, hx0⟩ := hrel
    have hz := hx0.size
    have hx : Ext w wr := hE2.trans hx0
    by_cases hlt : k < n
    · obtain ⟨b, off, hA, hb, hcell⟩ := (hP.ext hx).at_ (by omega)
      subst hA
      obtain ⟨B1, m1, d1, c0, c1, I1⟩ := hcell k hlt
      have i1 : (k : Int) < n := by omega
      clear hcell
      obtain ⟨hvp, htb⟩ := HPT.out k hlt
      obtain ⟨t, ht⟩ : ∃ t, tm ps k = t := ⟨_, rfl⟩
      obtain ⟨xs, hxs⟩ : ∃ xs, pt ps k = xs := ⟨_, rfl⟩
      rw [ht] at c1 htb
      rw [hxs] at I1 hvp
      have HVP := Lib.hid hvp
      clear hvp
      have hd := dec_size (n := t) (by omega)
      have hp := ptx_size xs
      have hpl := vpat_len HVP.out
      obtain ⟨sd, hsd⟩ : ∃ s, dec t = s := ⟨_, rfl⟩
      obtain ⟨sp, hsp⟩ : ∃ s, ptx xs = s := ⟨_, rfl⟩
      rw [hsd] at hd
      rw [hsp] at hp
      have cp := fun W hW => (PatternText_any B1 m1 d1 xs W hW HVP.out : Calls Tryd.prog 27 #[.slice B1 m1 d1] W _)
      have cd := fun W hW => (DecimalT_any t (by omega) W hW : Calls Tryd.prog 26 #[.int .i64 t] W _)
      rw [hsp] at cp
      rw [hsd] at cd
      have CP := Lib.hid cp
      have CD := Lib.hid cd
      have HN : Hid (s ++ (((⟨#[32]⟩ : ByteArray) ++ sp ++ ⟨#[42]⟩) ++ sd) = rtx h ps (k + 1)) := by
        show _ = _
        rw [HS.out, ← hsp, ← hsd, ← ht, ← hxs]
        rfl
      have e1 : ¬ 9223372036854775807 < 1 + sp.size := by omega
      have e2 : ¬ 9223372036854775807 < 1 + sp.size + 1 := by omega
      have e3 : ¬ 9223372036854775807 < 1 + sp.size + 1 + sd.size := by omega
      have e4 : ¬ 9223372036854775807 < s.size + (1 + sp.size + 1 + sd.size) := by omega
      have e5 : (s ++ (((⟨#[32]⟩ : ByteArray) ++ sp ++ ⟨#[42]⟩) ++ sd)).size ≤ 22 + 40 * (k + 1) := by
        simp only [ByteArray.size_append]
        show s.size + (1 + sp.size + 1 + sd.size) ≤ _
        omega
      have E5 := Lib.hid e5
      clear cp cd hsd hsp ht hxs e5 hp hpl
      go_wp2
      go_region_held3 (fun wz => wz.cell? ⟨wr.heap.size, 0, none⟩ = some (.slice B1 m1 d1) ∧ wz.cell? ⟨wr.heap.size, 1, none⟩ = some (.int .i64 t)) (go_keep)
        (first | (go_at_call 27; (with_reducible refine (CP.out _ (I1.ext (by with_reducible (repeat (first | exact Ext.refl _ | apply Ext.drewN | apply Ext.drew | apply Ext.alloc | (refine Ext.set ?_ (by first | (simp; done) | (simp; omega) | omega) _) | (refine Ext.trans ?_ (by assumption))))))).mono ?_); rintro e w3 ⟨rfl, hx_w3⟩; have hz_w3 := hx_w3.size; (try simp at hz_w3); (have hq0_w3 : wr.heap.size < w3.heap.size := by omega); (have hc0_w3 : ∀ o, w3.cell? ⟨wr.heap.size, o, none⟩ = _ := fun o => hx_w3.cells.1 _ o (by first | (simp; done) | (simp; omega) | omega))) | (go_at_call 26; (with_reducible refine (CD.out _ (hT.ext (by with_reducible (repeat (first | exact Ext.refl _ | apply Ext.drewN | apply Ext.drew | apply Ext.alloc | (refine Ext.set ?_ (by first | (simp; done) | (simp; omega) | omega) _) | (refine Ext.trans ?_ (by assumption))))))).mono ?_); rintro e w4 ⟨rfl, hx_w4⟩; have hz_w4 := hx_w4.size; (try simp at hz_w4); (have hq0_w4 : wr.heap.size < w4.heap.size := by omega); (have hc0_w4 : ∀ o, w4.cell? ⟨wr.heap.size, o, none⟩ = _ := fun o => hx_w4.cells.1 _ o (by first | (simp; done) | (simp; omega) | omega))))
      go_wp2
      go_roundw
      case rel => exact ⟨k + 1, _, by omega, by go_num, rfl, HN.out, E5.out, hx0.trans (by with_reducible (repeat (first | exact Ext.refl _ | apply Ext.drewN | apply Ext.drew | apply Ext.alloc | (refine Ext.set ?_ (by first | (simp; done) | (simp; omega) | omega) _) | (refine Ext.trans ?_ (by assumption)))))⟩
      case measure => simp [intOf]; omega
    · obtain rfl : k = n := by omega
      go_wp2
      go_ret
      exact ⟨by rw [HS.out]; rfl, hx⟩
set_option maxHeartbeats 4000000 in
set_option maxRecDepth 100000 in
theorem l19Text_any (g : Nat) (A : Option Addr) (n c : Nat) (ps : List (List Int × Int)) (h : Int) (w : World) (hg : g < w.heap.size) (a0 : w.cell? ⟨g, 0, none⟩ = some (.int .i64 h)) (a1 : w.cell? ⟨g, 1, none⟩ = some (.slice A n c)) (hP : Parts w A n ps) (hv : vrt h ps) :
    Calls Tryd.prog 23 #[.pointer (some ⟨g, 0, none⟩)] w fun e w' => e = .returned (.string (rtx h ps n)) ∧ Ext w w' := by
  have HLN := Lib.hid hP.len
  obtain ⟨hh, hn, hpt⟩ := vrt_parts hv HLN.out
  have HPT := Lib.hid hpt
  clear hpt
  have hs1 := dec_size (n := h) (by omega)
  obtain ⟨sh, hsh⟩ : ∃ s, dec h = s := ⟨_, rfl⟩
  rw [hsh] at hs1
  have HSH := Lib.hid hsh
  clear hsh
  have ch := fun W => (l01Dec_any h (by omega) W : Calls Tryd.prog 52 #[.int .i64 h] W _)
  rw [HSH.out] at ch
  have CH := Lib.hid ch
  clear ch
  have hss : ¬ 9223372036854775807 < sh.size + 1 := by omega
  have hHV := Lib.hid hv
  clear hv
  go_enter Tryd.func23, Tryd.ntmps23
  go_wp2_with fail
  (with_reducible refine (CH.out _).mono ?_)
  rintro e w2 ⟨rfl, hx2⟩
  have b1 : w2.cell? ⟨g, 1, none⟩ = some (.slice A n c) := hx2.cell hg a1
  go_wp2
  go_loopw [3, 4] (fun v i wr => ∃ (k : Nat) (s : ByteArray), k ≤ n ∧ i = .int .i64 k ∧ v = .string s ∧ Hid (s = rtx h ps k) ∧ s.size ≤ 22 + 40 * k ∧ Ext w2 wr) (fun _ i _ => n - (intOf i).toNat)
  case atStart => exact ⟨0, _, Nat.zero_le _, rfl, rfl, (by show _ = _; unfold rtx; rw [HSH.out]), (by rw [ByteArray.size_append]; show sh.size + 1 ≤ _; omega), Ext.refl _⟩
  case round =>
    obtain ⟨k, s, hk, rfl, rfl, HS, hsz, hx0⟩ := hrel
    have hx : Ext w wr := hx2.trans hx0
    have r1 : wr.cell? ⟨g, 1, none⟩ = some (.slice A n c) := hx.cell hg a1
    have hgr : g < wr.heap.size := Nat.lt_of_lt_of_le hg hx.size
    by_cases hlt : k < n
    · obtain ⟨b, off, hA, hb, hcell⟩ := (hP.ext hx).at_ (by omega)
      subst hA
      obtain ⟨B1, m1, d1, c0, c1, I1⟩ := hcell k hlt
      have i1 : (k : Int) < n := by omega
      clear hcell
      obtain ⟨hvp, htb⟩ := HPT.out k hlt
      obtain ⟨t, ht⟩ : ∃ t, tm ps k = t := ⟨_, rfl⟩
      obtain ⟨xs, hxs⟩ : ∃ xs, pt ps k = xs := ⟨_, rfl⟩
      rw [ht] at c1 htb
      rw [hxs] at I1 hvp
      have HVP := Lib.hid hvp
      clear hvp
      have hd := dec_size (n := t) (by omega)
      have hp := ptx_size xs
      have hpl := vpat_len HVP.out
      obtain ⟨sd, hsd⟩ : ∃ s, dec t = s := ⟨_, rfl⟩
      obtain ⟨sp, hsp⟩ : ∃ s, ptx xs = s := ⟨_, rfl⟩
      rw [hsd] at hd
      rw [hsp] at hp
      have cp := fun W hW => (l02Text_any B1 m1 d1 xs W hW HVP.out : Calls Tryd.prog 53 #[.slice B1 m1 d1] W _)
      have cd := fun W => (l01Dec_any t (by omega) W : Calls Tryd.prog 52 #[.int .i64 t] W _)
      rw [hsp] at cp
      rw [hsd] at cd
      have CP := Lib.hid cp
      have CD := Lib.hid cd
      have HN : Hid (s ++ (((⟨#[32]⟩ : ByteArray) ++ sp ++ ⟨#[42]⟩) ++ sd) = rtx h ps (k + 1)) := by
        show _ = _
        rw [HS.out, ← hsp, ← hsd, ← ht, ← hxs]
        rfl
      have e1 : ¬ 9223372036854775807 < 1 + sp.size := by omega
      have e2 : ¬ 9223372036854775807 < 1 + sp.size + 1 := by omega
      have e3 : ¬ 9223372036854775807 < 1 + sp.size + 1 + sd.size := by omega
      have e4 : ¬ 9223372036854775807 < s.size + (1 + sp.size + 1 + sd.size) := by omega
      have e5 : (s ++ (((⟨#[32]⟩ : ByteArray) ++ sp ++ ⟨#[42]⟩) ++ sd)).size ≤ 22 + 40 * (k + 1) := by
        simp only [ByteArray.size_append]
        show s.size + (1 + sp.size + 1 + sd.size) ≤ _
        omega
      have E5 := Lib.hid e5
      clear cp cd hsd hsp ht hxs e5 hp hpl
      go_wp2
      go_region_held3 (fun wz => wz.cell? ⟨g, 1, none⟩ = some (.slice (some ⟨b, off, none⟩) n c) ∧ wz.cell? ⟨b, off + k * 2, none⟩ = some (.slice B1 m1 d1) ∧ wz.cell? ⟨b, off + k * 2 + 1, none⟩ = some (.int .i64 t)) (go_keep)
        (first | (go_at_call 53; (with_reducible refine (CP.out _ (I1.ext (by with_reducible (repeat (first | exact Ext.refl _ | apply Ext.drewN | apply Ext.drew | apply Ext.alloc | (refine Ext.set ?_ (by first | (simp; done) | (simp; omega) | omega) _) | (refine Ext.trans ?_ (by assumption))))))).mono ?_); rintro e w' ⟨rfl, q, rfl⟩) | (go_at_call 52; (with_reducible refine (CD.out _).mono ?_); rintro e w4 ⟨rfl, hx_w4⟩; have hz_w4 := hx_w4.size; (try simp at hz_w4); (have hq0_w4 : g < w4.heap.size := by omega); (have hc0_w4 : ∀ o, w4.cell? ⟨g, o, none⟩ = _ := fun o => hx_w4.cells.1 _ o (by first | (simp; done) | (simp; omega) | omega)); (have hq1_w4 : b < w4.heap.size := by omega); (have hc1_w4 : ∀ o, w4.cell? ⟨b, o, none⟩ = _ := fun o => hx_w4.cells.1 _ o (by first | (simp; done) | (simp; omega) | omega))))
      go_wp2
      go_roundw
      case rel => exact ⟨k + 1, _, by omega, by go_num, rfl, HN.out, E5.out, hx0.trans (by with_reducible (repeat (first | exact Ext.refl _ | apply Ext.drewN | apply Ext.drew | apply Ext.alloc | (refine Ext.set ?_ (by first | (simp; done) | (simp; omega) | omega) _) | (refine Ext.trans ?_ (by assumption)))))⟩
      case measure => simp [intOf]; omega
    · obtain rfl : k = n := by omega
      go_wp2
      go_ret
      exact ⟨by rw [HS.out]; rfl, hx⟩
theorem specRoutineText_no (A : Option Addr) (n c : Nat) (ps : List (List Int × Int)) (h : Int) (w : World) (hP : Parts w A n ps) (hv : ¬ vrt h ps) :
    Calls Tryd.prog 7 #[.agg #[.int .i64 h, .slice A n c]] w fun e w' => e = .returned (.string ⟨#[]⟩) ∧ Ext w w' := by
  go_enter Tryd.func7, Tryd.ntmps7
  go_wp2_with fail
  (with_reducible refine (l19Ok_is _ A n c ps h _ (by simp) (by simp) (hP.ext (by with_reducible (repeat (first | exact Ext.refl _ | apply Ext.drewN | apply Ext.drew | apply Ext.alloc | (refine Ext.set ?_ (by first | (simp; done) | (simp; omega) | omega) _) | (refine Ext.trans ?_ (by assumption)))))) false ⟨(fun e => by cases e), fun e => absurd e hv⟩).mono ?_)
  rintro e w1 ⟨rfl, q, rfl⟩
  go_wp2
  go_ret
  exact ⟨rfl, (by with_reducible (repeat (first | exact Ext.refl _ | apply Ext.drewN | apply Ext.drew | apply Ext.alloc | (refine Ext.set ?_ (by first | (simp; done) | (simp; omega) | omega) _) | (refine Ext.trans ?_ (by assumption)))))⟩
theorem specRoutineText_yes (A : Option Addr) (n c : Nat) (ps : List (List Int × Int)) (h : Int) (w : World) (hP : Parts w A n ps) (hv : vrt h ps) :
    Calls Tryd.prog 7 #[.agg #[.int .i64 h, .slice A n c]] w fun e w' => e = .returned (.string (rtx h ps n)) ∧ Ext w w' := by
  go_enter Tryd.func7, Tryd.ntmps7
  go_wp2_with fail
  (with_reducible refine (l19Ok_is _ A n c ps h _ (by simp) (by simp) (hP.ext (by with_reducible (repeat (first | exact Ext.refl _ | apply Ext.drewN | apply Ext.drew | apply Ext.alloc | (refine Ext.set ?_ (by first | (simp; done) | (simp; omega) | omega) _) | (refine Ext.trans ?_ (by assumption)))))) true ⟨fun _ => hv, fun _ => rfl⟩).mono ?_)
  rintro e w1 ⟨rfl, q, rfl⟩
  go_wp2_with fail
  (with_reducible refine (l19Text_any _ A n c ps h _ (by simp) (by simp) (by simp) (hP.ext (by with_reducible (repeat (first | exact Ext.refl _ | apply Ext.drewN | apply Ext.drew | apply Ext.alloc | (refine Ext.set ?_ (by first | (simp; done) | (simp; omega) | omega) _) | (refine Ext.trans ?_ (by assumption)))))) hv).mono ?_)
  rintro e w2 ⟨rfl, hx2⟩
  go_wp2
  go_ret
  exact ⟨rfl, Ext.trans (by with_reducible (repeat (first | exact Ext.refl _ | apply Ext.drewN | apply Ext.drew | apply Ext.alloc | (refine Ext.set ?_ (by first | (simp; done) | (simp; omega) | omega) _) | (refine Ext.trans ?_ (by assumption))))) hx2⟩
/-- A routine's text. -/
def Rtext (h : Int) (ps : List (List Int × Int)) (n : Nat) (s : ByteArray) : Prop := vrt h ps ∧ rtx h ps n = s ∨ ¬ vrt h ps ∧ (⟨#[]⟩ : ByteArray) = s
theorem rtext_ex (h : Int) (ps : List (List Int × Int)) (n : Nat) : ∃ s, Rtext h ps n s := by
  by_cases k : vrt h ps
  · exact ⟨_, .inl ⟨k, rfl⟩⟩
  · exact ⟨_, .inr ⟨k, rfl⟩⟩
theorem implRoutineText_is (A : Option Addr) (n c : Nat) (ps : List (List Int × Int)) (h : Int) (w : World) (hP : Parts w A n ps) (hT : Tab w) (s : ByteArray) (hs : Rtext h ps n s) :
    Calls Tryd.prog 9 #[.agg #[.int .i64 h, .slice A n c]] w fun e w' => e = .returned (.string s) ∧ Ext w w' := by
  rcases hs with ⟨k, rfl⟩ | ⟨k, rfl⟩
  · exact implRoutineText_yes A n c ps h w hP k hT
  · exact implRoutineText_no A n c ps h w hP k
theorem specRoutineText_is (A : Option Addr) (n c : Nat) (ps : List (List Int × Int)) (h : Int) (w : World) (hP : Parts w A n ps) (s : ByteArray) (hs : Rtext h ps n s) :
    Calls Tryd.prog 7 #[.agg #[.int .i64 h, .slice A n c]] w fun e w' => e = .returned (.string s) ∧ Ext w w' := by
  rcases hs with ⟨k, rfl⟩ | ⟨k, rfl⟩
  · exact specRoutineText_yes A n c ps h w hP k
  · exact specRoutineText_no A n c ps h w hP k
end Go.Proofs.YtinkaglngblddaaDoor
