/- The walk of laws.FnRoutineTexts. No condition. -/
import Derived.Test.YtinkaglngblddaaDoorDra
import Derived.Test.YtinkaglngblddaaDoorRds
import Derived.Test.YtinkaglngblddaaDoorRtn3
import Derived.Test.YtinkaglngblddaaDoorLate
import Derived.Deep.QuietTactic
namespace Go.Proofs.YtinkaglngblddaaDoor.fnRoutineTexts
set_option linter.unusedVariables false
set_option linter.unusedSimpArgs false
open Go.RowKit Go.Joins
theorem rdo_bd {s : ByteArray} {h : Int} {ps : List (List Int × Int)} {r : Bool} (hR : Rdo s h ps r) : ps.length ≤ 8 ∧ bdP ps := by
  rcases hR with ⟨_, w0, ws, _, _, hw, hv⟩ | ⟨_, _, rfl, _⟩
  · obtain ⟨_, h2, h3⟩ := vrt_parts hv rfl
    refine ⟨h2.2, fun i hi => ?_⟩
    obtain ⟨h4, h5⟩ := h3 i hi
    have h12 := (thr_iff.1 (vpat_thr h4)).2
    refine ⟨by omega, fun y hy => ?_, by omega, by omega⟩
    obtain ⟨j, hj, rfl⟩ := List.mem_iff_getElem.1 hy
    have := vpat_get h4 hj
    rw [List.getElem?_eq_getElem hj] at this
    simp only [Option.getD_some] at this
    omega
  · exact ⟨by simp, fun i hi => absurd hi (by simp)⟩
theorem rdo_ex (s : ByteArray) : ∃ h ps r, Rdo s h ps r := by
  by_cases h : ∃ h ps, rdo s h ps
  · obtain ⟨h, ps, hr⟩ := h
    exact ⟨h, ps, true, .inl ⟨rfl, hr⟩⟩
  · exact ⟨0, [], false, .inr ⟨rfl, rfl, rfl, fun a b hr => h ⟨a, b, hr⟩⟩⟩
theorem f6bigX_any (A : Option Addr) (n c : Nat) (w : World) (hn : n ≤ 9223372036854775807) :
    Calls Tryd.prog 15 #[.slice A n c] w fun e w' => e = .returned (.bool (decide (4096 < n))) ∧ w = w' := by
  by_cases h : 4096 < n
  · have hi : (4096 : Int) < n := by omega
    rw [decide_eq_true h]
    go_enter Tryd.func15, Tryd.ntmps15
    go_wp2
    go_ret
    exact ⟨rfl, rfl⟩
  · have hi : ¬ (4096 : Int) < n := by omega
    rw [decide_eq_false h]
    go_enter Tryd.func15, Tryd.ntmps15
    go_wp2
    go_ret
    exact ⟨rfl, rfl⟩
theorem rtx_size {h : Int} {ps : List (List Int × Int)} {n : Nat} (hh : 1 ≤ h ∧ h ≤ 10) (hp : ∀ k, k < n → vpat (pt ps k) = true ∧ (1 ≤ tm ps k ∧ tm ps k ≤ 20)) : ∀ k, k ≤ n → 2 ≤ (rtx h ps k).size ∧ (rtx h ps k).size ≤ 22 + 40 * k := by
  intro k
  induction k with
  | zero =>
    intro _
    have := dec_size (n := h) (by omega)
    unfold rtx
    rw [ByteArray.size_append]
    show 2 ≤ _ + 1 ∧ _ + 1 ≤ _
    omega
  | succ k ih =>
    intro hk
    obtain ⟨i1, i2⟩ := ih (by omega)
    obtain ⟨h1, h2⟩ := hp k (by omega)
    have hd := dec_size (n := tm ps k) (by omega)
    have hx := ptx_size (pt ps k)
    have hl := vpat_len h1
    unfold rtx
    simp only [ByteArray.size_append]
    show 2 ≤ _ + (1 + _ + 1 + _) ∧ _ + (1 + _ + 1 + _) ≤ _
    omega
/-- What is read back of a routine's text. -/
theorem back_ex (h : Int) (ps : List (List Int × Int)) {n : Nat} (hn : ps.length = n) : ∃ (s : ByteArray) (hb : Int) (pb : List (List Int × Int)) (ok : Bool), Rtext h ps n s ∧ s.size ≤ 1048576 ∧ Rdo s hb pb ok ∧ ((ok = true ∧ hb = h ∧ pb = ps ∧ 2 ≤ s.size) ∨ (ok = false ∧ s = ⟨#[]⟩)) := by
  subst hn
  by_cases hv : vrt h ps
  · obtain ⟨h1, h2, h3⟩ := vrt_parts hv rfl
    have hz := rtx_size h1 h3 ps.length (Nat.le_refl _)
    exact ⟨rtx h ps ps.length, h, ps, true, .inl ⟨hv, rfl⟩, by omega, .inl ⟨rfl, rdo_text hv⟩, .inl ⟨rfl, rfl, rfl, hz.1⟩⟩
  · exact ⟨⟨#[]⟩, 0, [], false, .inr ⟨hv, rfl⟩, by decide, .inr ⟨rfl, rfl, rfl, rdo_none⟩, .inr ⟨rfl, rfl⟩⟩
theorem rdo_rtext {s : ByteArray} {h : Int} {ps : List (List Int × Int)} (hR : Rdo s h ps true) : Rtext h ps ps.length s := by
  rcases hR with ⟨_, w0, ws, hs, hh, hw, hv⟩ | ⟨e, _⟩
  · refine .inl ⟨hv, ?_⟩
    rw [hw.1, rtx_back hh hw ws.length (Nat.le_refl _), splB_join hs]
  · cases e
set_option maxHeartbeats 16000000 in
set_option maxRecDepth 100000 in
theorem walk (A : Option Addr) (n c : Nat) (xs : List Int) (w : World) (hB : Byts w A n xs) (hT : Tab w) :
    Calls Tryd.prog 5 #[.slice A n c] w fun e w' => e = .returned (.bool true) ∧ Below w.heap.size w w' := by
  have hsn := hB.small
  cases hl : decide (4096 < n)
  rotate_left
  · have HL := Lib.hid hl
    clear hl
    go_enter Tryd.func5, Tryd.ntmps5
    go_wp2_with fail
    (with_reducible refine (f6bigX_any _ _ _ _ hsn).mono ?_)
    rw [HL.out]
    rintro e w' ⟨rfl, rfl⟩
    go_wp2
    go_ret
    exact ⟨rfl, Ext.below (Ext.refl _)⟩
  have HL := Lib.hid hl
  clear hl
  go_enter Tryd.func5, Tryd.ntmps5
  go_wp2_with fail
  (with_reducible refine (f6bigX_any _ _ _ _ hsn).mono ?_)
  rw [HL.out]
  rintro e w' ⟨rfl, rfl⟩
  go_wp2_with fail
  (with_reducible refine (DrawRoutineText_any A n c xs _ (hB.ext (by with_reducible (repeat (first | exact Ext.refl _ | apply Ext.drewN | apply Ext.drew | apply Ext.alloc | (refine Ext.set ?_ (by first | (simp; done) | (simp; omega) | omega) _) | (refine Ext.trans ?_ (by assumption))))))).mono ?_)
  rintro e w1 ⟨A1, k, c1, hh, ps, rfl, hP1, hb1, hk9, hh9, hx_w1⟩
  have hz_w1 := hx_w1.size
  (try simp at hz_w1)
  have hp_w1 : Ext w w1 := Ext.trans (by with_reducible (repeat (first | exact Ext.refl _ | apply Ext.drewN | apply Ext.drew | apply Ext.alloc | (refine Ext.set ?_ (by first | (simp; done) | (simp; omega) | omega) _) | (refine Ext.trans ?_ (by assumption))))) hx_w1
  have hE_w1 : Ext w w1 := hp_w1
  have P1_w1 := Lib.hid hP1
  obtain ⟨s, hb, pb, ok, hRT, hss, hRD, hok⟩ := back_ex hh ps hP1.len
  have HRT := Lib.hid hRT
  have HRD := Lib.hid hRD
  have HOK := Lib.hid hok
  have HBB : Hid (pb.length ≤ 8 ∧ bdP pb) := rdo_bd hRD
  have hbl := HBB.out.1
  clear hP1 hRT hRD hok hb1
  go_wp2_with fail
  (with_reducible refine (implRoutineText_is A1 k c1 ps hh _ (P1_w1.out.ext (by with_reducible (repeat (first | exact Ext.refl _ | apply Ext.drewN | apply Ext.drew | apply Ext.alloc | (refine Ext.set ?_ (by first | (simp; done) | (simp; omega) | omega) _) | (refine Ext.trans ?_ (by assumption)))))) (hT.ext (hE_w1.trans (by with_reducible (repeat (first | exact Ext.refl _ | apply Ext.drewN | apply Ext.drew | apply Ext.alloc | (refine Ext.set ?_ (by first | (simp; done) | (simp; omega) | omega) _) | (refine Ext.trans ?_ (by assumption))))))) s HRT.out).mono ?_)
  rintro e w2 ⟨rfl, hx_w2⟩
  have hz_w2 := hx_w2.size
  (try simp at hz_w2)
  have hp_w2 : Ext w1 w2 := Ext.trans (by with_reducible (repeat (first | exact Ext.refl _ | apply Ext.drewN | apply Ext.drew | apply Ext.alloc | (refine Ext.set ?_ (by first | (simp; done) | (simp; omega) | omega) _) | (refine Ext.trans ?_ (by assumption))))) hx_w2
  have hq0_w2 : w1.heap.size < w2.heap.size := by omega
  have hb00_w2 : w2.cell? ⟨w1.heap.size, 0, none⟩ = some (.int .i64 hh) := hx_w2.cell (by first | (simp [World.setCell]; done) | (simp [World.setCell]; omega) | omega) (by go_simp)
  have hb01_w2 : w2.cell? ⟨w1.heap.size, 1, none⟩ = some (.slice A1 k c1) := hx_w2.cell (by first | (simp [World.setCell]; done) | (simp [World.setCell]; omega) | omega) (by go_simp)
  have P1_w2 := Lib.hid (P1_w1.out.ext hp_w2)
  clear P1_w1
  have hE_w2 : Ext w w2 := hE_w1.trans hp_w2
  go_wp2_with fail
  (with_reducible refine (implReadRoutine_any s _ hss (hT.ext (hE_w2.trans (by with_reducible (repeat (first | exact Ext.refl _ | apply Ext.drewN | apply Ext.drew | apply Ext.alloc | (refine Ext.set ?_ (by first | (simp; done) | (simp; omega) | omega) _) | (refine Ext.trans ?_ (by assumption))))))) hb pb ok HRD.out).mono ?_)
  rintro e w3 ⟨A5, c5, rfl, R5, hx_w3⟩
  have hz_w3 := hx_w3.size
  (try simp at hz_w3)
  have hp_w3 : Ext w2 w3 := Ext.trans (by with_reducible (repeat (first | exact Ext.refl _ | apply Ext.drewN | apply Ext.drew | apply Ext.alloc | (refine Ext.set ?_ (by first | (simp; done) | (simp; omega) | omega) _) | (refine Ext.trans ?_ (by assumption))))) hx_w3
  have hq0_w3 : w1.heap.size < w3.heap.size := by omega
  have hb00_w3 : w3.cell? ⟨w1.heap.size, 0, none⟩ = some (.int .i64 hh) := hp_w3.cell (by omega) hb00_w2
  have hb01_w3 : w3.cell? ⟨w1.heap.size, 1, none⟩ = some (.slice A1 k c1) := hp_w3.cell (by omega) hb01_w2
  clear hb00_w2 hb01_w2 hq0_w2
  have P1_w3 := Lib.hid (P1_w2.out.ext hp_w3)
  clear P1_w2
  have hE_w3 : Ext w w3 := hE_w2.trans hp_w3
  have P5_w3 := Lib.hid (R5.parts (by omega) HBB.out.2)
  clear R5
  go_wp2_with fail
  (with_reducible refine (DrawReadRoutine_any A n c xs _ (hB.ext (hE_w3.trans (by with_reducible (repeat (first | exact Ext.refl _ | apply Ext.drewN | apply Ext.drew | apply Ext.alloc | (refine Ext.set ?_ (by first | (simp; done) | (simp; omega) | omega) _) | (refine Ext.trans ?_ (by assumption)))))))).mono ?_)
  rintro e w4 ⟨s2, rfl, hs2, hx_w4⟩
  have hz_w4 := hx_w4.size
  (try simp at hz_w4)
  have hp_w4 : Ext w3 w4 := Ext.trans (by with_reducible (repeat (first | exact Ext.refl _ | apply Ext.drewN | apply Ext.drew | apply Ext.alloc | (refine Ext.set ?_ (by first | (simp; done) | (simp; omega) | omega) _) | (refine Ext.trans ?_ (by assumption))))) hx_w4
  have hq0_w4 : w1.heap.size < w4.heap.size := by omega
  have hb00_w4 : w4.cell? ⟨w1.heap.size, 0, none⟩ = some (.int .i64 hh) := hp_w4.cell (by omega) hb00_w3
  have hb01_w4 : w4.cell? ⟨w1.heap.size, 1, none⟩ = some (.slice A1 k c1) := hp_w4.cell (by omega) hb01_w3
  clear hb00_w3 hb01_w3 hq0_w3
  have hq1_w4 : w3.heap.size < w4.heap.size := by omega
  have hb10_w4 : w4.cell? ⟨w3.heap.size, 0, none⟩ = some (.int .i64 hb) := hx_w4.cell (by first | (simp [World.setCell]; done) | (simp [World.setCell]; omega) | omega) (by go_simp)
  have hb11_w4 : w4.cell? ⟨w3.heap.size, 1, none⟩ = some (.slice A5 pb.length c5) := hx_w4.cell (by first | (simp [World.setCell]; done) | (simp [World.setCell]; omega) | omega) (by go_simp)
  have P1_w4 := Lib.hid (P1_w3.out.ext hp_w4)
  clear P1_w3
  have P5_w4 := Lib.hid (P5_w3.out.ext hp_w4)
  clear P5_w3
  have hE_w4 : Ext w w4 := hE_w3.trans hp_w4
  have hs2b : s2.size ≤ 1048576 := by omega
  obtain ⟨h2, qs, one, hQ⟩ := rdo_ex s2
  have HQ := Lib.hid hQ
  have HQB : Hid (qs.length ≤ 8 ∧ bdP qs) := rdo_bd hQ
  have hql := HQB.out.1
  clear hQ
  go_wp2_with fail
  (with_reducible refine (implReadRoutine_any s2 _ hs2b (hT.ext (hE_w4.trans (by with_reducible (repeat (first | exact Ext.refl _ | apply Ext.drewN | apply Ext.drew | apply Ext.alloc | (refine Ext.set ?_ (by first | (simp; done) | (simp; omega) | omega) _) | (refine Ext.trans ?_ (by assumption))))))) h2 qs one HQ.out).mono ?_)
  rintro e w5 ⟨A8, c8, rfl, R8, hx_w5⟩
  have hz_w5 := hx_w5.size
  (try simp at hz_w5)
  have hp_w5 : Ext w4 w5 := Ext.trans (by with_reducible (repeat (first | exact Ext.refl _ | apply Ext.drewN | apply Ext.drew | apply Ext.alloc | (refine Ext.set ?_ (by first | (simp; done) | (simp; omega) | omega) _) | (refine Ext.trans ?_ (by assumption))))) hx_w5
  have hq0_w5 : w1.heap.size < w5.heap.size := by omega
  have hb00_w5 : w5.cell? ⟨w1.heap.size, 0, none⟩ = some (.int .i64 hh) := hp_w5.cell (by omega) hb00_w4
  have hb01_w5 : w5.cell? ⟨w1.heap.size, 1, none⟩ = some (.slice A1 k c1) := hp_w5.cell (by omega) hb01_w4
  clear hb00_w4 hb01_w4 hq0_w4
  have hq1_w5 : w3.heap.size < w5.heap.size := by omega
  have hb10_w5 : w5.cell? ⟨w3.heap.size, 0, none⟩ = some (.int .i64 hb) := hp_w5.cell (by omega) hb10_w4
  have hb11_w5 : w5.cell? ⟨w3.heap.size, 1, none⟩ = some (.slice A5 pb.length c5) := hp_w5.cell (by omega) hb11_w4
  clear hb10_w4 hb11_w4 hq1_w4
  have P1_w5 := Lib.hid (P1_w4.out.ext hp_w5)
  clear P1_w4
  have P5_w5 := Lib.hid (P5_w4.out.ext hp_w5)
  clear P5_w4
  have hE_w5 : Ext w w5 := hE_w4.trans hp_w5
  have P8_w5 := Lib.hid (R8.parts (by omega) HQB.out.2)
  clear R8
  go_wp2_with fail
  (with_reducible refine (specReadRoutine_any s2 _ hs2b h2 qs one HQ.out).mono ?_)
  rintro e w6 ⟨A9, c9, rfl, R9, hx_w6⟩
  have hz_w6 := hx_w6.size
  (try simp at hz_w6)
  have hp_w6 : Ext w5 w6 := Ext.trans (by with_reducible (repeat (first | exact Ext.refl _ | apply Ext.drewN | apply Ext.drew | apply Ext.alloc | (refine Ext.set ?_ (by first | (simp; done) | (simp; omega) | omega) _) | (refine Ext.trans ?_ (by assumption))))) hx_w6
  have hq0_w6 : w1.heap.size < w6.heap.size := by omega
  have hb00_w6 : w6.cell? ⟨w1.heap.size, 0, none⟩ = some (.int .i64 hh) := hp_w6.cell (by omega) hb00_w5
  have hb01_w6 : w6.cell? ⟨w1.heap.size, 1, none⟩ = some (.slice A1 k c1) := hp_w6.cell (by omega) hb01_w5
  clear hb00_w5 hb01_w5 hq0_w5
  have hq1_w6 : w3.heap.size < w6.heap.size := by omega
  have hb10_w6 : w6.cell? ⟨w3.heap.size, 0, none⟩ = some (.int .i64 hb) := hp_w6.cell (by omega) hb10_w5
  have hb11_w6 : w6.cell? ⟨w3.heap.size, 1, none⟩ = some (.slice A5 pb.length c5) := hp_w6.cell (by omega) hb11_w5
  clear hb10_w5 hb11_w5 hq1_w5
  have hq2_w6 : w5.heap.size < w6.heap.size := by omega
  have hb20_w6 : w6.cell? ⟨w5.heap.size, 0, none⟩ = some (.int .i64 h2) := hx_w6.cell (by first | (simp [World.setCell]; done) | (simp [World.setCell]; omega) | omega) (by go_simp)
  have hb21_w6 : w6.cell? ⟨w5.heap.size, 1, none⟩ = some (.slice A8 qs.length c8) := hx_w6.cell (by first | (simp [World.setCell]; done) | (simp [World.setCell]; omega) | omega) (by go_simp)
  have P1_w6 := Lib.hid (P1_w5.out.ext hp_w6)
  clear P1_w5
  have P5_w6 := Lib.hid (P5_w5.out.ext hp_w6)
  clear P5_w5
  have P8_w6 := Lib.hid (P8_w5.out.ext hp_w6)
  clear P8_w5
  have hE_w6 : Ext w w6 := hE_w5.trans hp_w6
  have P9_w6 := Lib.hid (R9.parts (by omega) HQB.out.2)
  clear R9
  go_wp2_with fail
  (with_reducible refine (DrawSameRoutine_any A n c xs _ (hB.ext (hE_w6.trans (by with_reducible (repeat (first | exact Ext.refl _ | apply Ext.drewN | apply Ext.drew | apply Ext.alloc | (refine Ext.set ?_ (by first | (simp; done) | (simp; omega) | omega) _) | (refine Ext.trans ?_ (by assumption)))))))).mono ?_)
  rintro e w7 ⟨Aa, Ab, ka, ca, kb, cb, ha, hb2, pa, pb2, rfl, hPa, hPb, hkk, hx_w7⟩
  have hz_w7 := hx_w7.size
  (try simp at hz_w7)
  have hp_w7 : Ext w6 w7 := Ext.trans (by with_reducible (repeat (first | exact Ext.refl _ | apply Ext.drewN | apply Ext.drew | apply Ext.alloc | (refine Ext.set ?_ (by first | (simp; done) | (simp; omega) | omega) _) | (refine Ext.trans ?_ (by assumption))))) hx_w7
  have hq0_w7 : w1.heap.size < w7.heap.size := by omega
  have hb00_w7 : w7.cell? ⟨w1.heap.size, 0, none⟩ = some (.int .i64 hh) := hp_w7.cell (by omega) hb00_w6
  have hb01_w7 : w7.cell? ⟨w1.heap.size, 1, none⟩ = some (.slice A1 k c1) := hp_w7.cell (by omega) hb01_w6
  clear hb00_w6 hb01_w6 hq0_w6
  have hq1_w7 : w3.heap.size < w7.heap.size := by omega
  have hb10_w7 : w7.cell? ⟨w3.heap.size, 0, none⟩ = some (.int .i64 hb) := hp_w7.cell (by omega) hb10_w6
  have hb11_w7 : w7.cell? ⟨w3.heap.size, 1, none⟩ = some (.slice A5 pb.length c5) := hp_w7.cell (by omega) hb11_w6
  clear hb10_w6 hb11_w6 hq1_w6
  have hq2_w7 : w5.heap.size < w7.heap.size := by omega
  have hb20_w7 : w7.cell? ⟨w5.heap.size, 0, none⟩ = some (.int .i64 h2) := hp_w7.cell (by omega) hb20_w6
  have hb21_w7 : w7.cell? ⟨w5.heap.size, 1, none⟩ = some (.slice A8 qs.length c8) := hp_w7.cell (by omega) hb21_w6
  clear hb20_w6 hb21_w6 hq2_w6
  have hq3_w7 : w6.heap.size < w7.heap.size := by omega
  have hb30_w7 : w7.cell? ⟨w6.heap.size, 0, none⟩ = some (.int .i64 h2) := hx_w7.cell (by first | (simp [World.setCell]; done) | (simp [World.setCell]; omega) | omega) (by go_simp)
  have hb31_w7 : w7.cell? ⟨w6.heap.size, 1, none⟩ = some (.slice A9 qs.length c9) := hx_w7.cell (by first | (simp [World.setCell]; done) | (simp [World.setCell]; omega) | omega) (by go_simp)
  have P1_w7 := Lib.hid (P1_w6.out.ext hp_w7)
  clear P1_w6
  have P5_w7 := Lib.hid (P5_w6.out.ext hp_w7)
  clear P5_w6
  have P8_w7 := Lib.hid (P8_w6.out.ext hp_w7)
  clear P8_w6
  have P9_w7 := Lib.hid (P9_w6.out.ext hp_w7)
  clear P9_w6
  have hE_w7 : Ext w w7 := hE_w6.trans hp_w7
  have Pa_w7 := Lib.hid hPa
  have Pb_w7 := Lib.hid hPb
  clear hPa hPb
  obtain ⟨v, hv⟩ : ∃ v, decide (ha = hb2 ∧ pa = pb2) = v := ⟨_, rfl⟩
  have HV := Lib.hid hv
  clear hv
  have hxW : Ext w7 ((w7.alloc (.cells #[.int .i64 ha, .slice Aa ka ca] 29)).alloc (.cells #[.int .i64 hb2, .slice Ab kb cb] 29)) := ((Ext.refl _).alloc _).alloc _
  have hba : ((w7.alloc (.cells #[.int .i64 ha, .slice Aa ka ca] 29)).alloc (.cells #[.int .i64 hb2, .slice Ab kb cb] 29)).heap[w7.heap.size]? = some (.cells #[.int .i64 ha, .slice Aa ka ca] 29) := blkX (heap_alloc_new w7 _) ((Ext.refl _).alloc _)
  have hbb : ((w7.alloc (.cells #[.int .i64 ha, .slice Aa ka ca] 29)).alloc (.cells #[.int .i64 hb2, .slice Ab kb cb] 29)).heap[w7.heap.size + 1]? = some (.cells #[.int .i64 hb2, .slice Ab kb cb] 29) := by
    have := heap_alloc_new (w7.alloc (.cells #[.int .i64 ha, .slice Aa ka ca] 29)) (.cells #[.int .i64 hb2, .slice Ab kb cb] 29)
    simpa using this
  have hc00 : ((w7.alloc (.cells #[.int .i64 ha, .slice Aa ka ca] 29)).alloc (.cells #[.int .i64 hb2, .slice Ab kb cb] 29)).cell? ⟨w1.heap.size, 0, none⟩ = some (.int .i64 hh) := hxW.cell (by omega) hb00_w7
  have hc01 : ((w7.alloc (.cells #[.int .i64 ha, .slice Aa ka ca] 29)).alloc (.cells #[.int .i64 hb2, .slice Ab kb cb] 29)).cell? ⟨w1.heap.size, 1, none⟩ = some (.slice A1 k c1) := hxW.cell (by omega) hb01_w7
  clear hb00_w7 hb01_w7
  have hc10 : ((w7.alloc (.cells #[.int .i64 ha, .slice Aa ka ca] 29)).alloc (.cells #[.int .i64 hb2, .slice Ab kb cb] 29)).cell? ⟨w3.heap.size, 0, none⟩ = some (.int .i64 hb) := hxW.cell (by omega) hb10_w7
  have hc11 : ((w7.alloc (.cells #[.int .i64 ha, .slice Aa ka ca] 29)).alloc (.cells #[.int .i64 hb2, .slice Ab kb cb] 29)).cell? ⟨w3.heap.size, 1, none⟩ = some (.slice A5 pb.length c5) := hxW.cell (by omega) hb11_w7
  clear hb10_w7 hb11_w7
  have hc20 : ((w7.alloc (.cells #[.int .i64 ha, .slice Aa ka ca] 29)).alloc (.cells #[.int .i64 hb2, .slice Ab kb cb] 29)).cell? ⟨w5.heap.size, 0, none⟩ = some (.int .i64 h2) := hxW.cell (by omega) hb20_w7
  have hc21 : ((w7.alloc (.cells #[.int .i64 ha, .slice Aa ka ca] 29)).alloc (.cells #[.int .i64 hb2, .slice Ab kb cb] 29)).cell? ⟨w5.heap.size, 1, none⟩ = some (.slice A8 qs.length c8) := hxW.cell (by omega) hb21_w7
  clear hb20_w7 hb21_w7
  have hc30 : ((w7.alloc (.cells #[.int .i64 ha, .slice Aa ka ca] 29)).alloc (.cells #[.int .i64 hb2, .slice Ab kb cb] 29)).cell? ⟨w6.heap.size, 0, none⟩ = some (.int .i64 h2) := hxW.cell (by omega) hb30_w7
  have hc31 : ((w7.alloc (.cells #[.int .i64 ha, .slice Aa ka ca] 29)).alloc (.cells #[.int .i64 hb2, .slice Ab kb cb] 29)).cell? ⟨w6.heap.size, 1, none⟩ = some (.slice A9 qs.length c9) := hxW.cell (by omega) hb31_w7
  clear hb30_w7 hb31_w7
  obtain ⟨⟨hca0, hca1⟩, -, -⟩ := blk2D hba
  obtain ⟨⟨hcb0, hcb1⟩, -, -⟩ := blk2D hbb
  have hx0 : Ext w7 ((w7.alloc (.cells #[.int .i64 ha, .slice Aa ka ca] 29)).alloc (.cells #[.int .i64 hb2, .slice Ab kb cb] 29)).drew := hxW.drew
  have hE0 := Lib.hid (hE_w7.trans hx0)
  have Q1 := Lib.hid (P1_w7.out.ext hx0)
  clear P1_w7
  have Q5 := Lib.hid (P5_w7.out.ext hx0)
  clear P5_w7
  have Q8 := Lib.hid (P8_w7.out.ext hx0)
  clear P8_w7
  have Q9 := Lib.hid (P9_w7.out.ext hx0)
  clear P9_w7
  have Qa := Lib.hid (Pa_w7.out.ext hx0)
  clear Pa_w7
  have Qb := Lib.hid (Pb_w7.out.ext hx0)
  clear Pb_w7
  have HT0 := Lib.hid (hT.ext hE0.out)
  clear hba hbb
  go_upto_region 10 with fail
  cases one
  · skip
    rcases HOK.out with ⟨e0, e1, e2, hs2s⟩ | ⟨rfl, rfl⟩
    · skip
      subst ok hb pb
      have hsne := emptyN s (by omega)
      refine wp_region_held_drew (S := Holds [(⟨w1.heap.size, 0, none⟩, .int .i64 hh), (⟨w1.heap.size, 1, none⟩, .slice A1 k c1), (⟨w3.heap.size, 0, none⟩, .int .i64 hh), (⟨w3.heap.size, 1, none⟩, .slice A5 ps.length c5), (⟨w5.heap.size, 0, none⟩, .int .i64 h2), (⟨w5.heap.size, 1, none⟩, .slice A8 qs.length c8), (⟨w6.heap.size, 0, none⟩, .int .i64 h2), (⟨w6.heap.size, 1, none⟩, .slice A9 qs.length c9), (⟨w7.heap.size, 0, none⟩, .int .i64 ha), (⟨w7.heap.size, 1, none⟩, .slice Aa ka ca), (⟨w7.heap.size + 1, 0, none⟩, .int .i64 hb2), (⟨w7.heap.size + 1, 1, none⟩, .slice Ab kb cb)]) (by kernel_rfl) (by (simp only [Holds_cons, Holds_nil, and_true]); exact ⟨hc00, hc01, hc10, hc11, hc20, hc21, hc30, hc31, hca0, hca1, hcb0, hcb1⟩) (fun hHeld => ?_)
      refine wpAnyH_take (i := 0) (v := ?_) rfl (by kernel_rfl) (by kernel_rfl) (by kernel_rfl) (fun _ _ _ h => h) (Or.inl ⟨by rfl, ?hyh1⟩) hHeld ?_
      case hyh1 => ((intro wz hSw); (simp only [Holds_cons, Holds_nil, and_true] at hSw); (obtain ⟨_, _, _, _, _, _, _, _, _, _, _, _⟩ := hSw); go_simp; (try with_reducible rfl))
      (try simp only [List.getElem_toArray, List.getElem_cons_succ, List.getElem_cons_zero, Act.put, List.setIfInBounds_toArray, List.set_cons_zero, List.set_cons_succ])
      refine wpAnyH_take (i := 1) (v := ?_) rfl (by kernel_rfl) (by kernel_rfl) (by kernel_rfl) (fun _ _ _ h => h) (Or.inl ⟨by rfl, ?hyh2⟩) hHeld ?_
      case hyh2 => ((intro wz hSw); (simp only [Holds_cons, Holds_nil, and_true] at hSw); (obtain ⟨_, _, _, _, _, _, _, _, _, _, _, _⟩ := hSw); go_simp; (try with_reducible rfl))
      (try simp only [List.getElem_toArray, List.getElem_cons_succ, List.getElem_cons_zero, Act.put, List.setIfInBounds_toArray, List.set_cons_zero, List.set_cons_succ])
      refine wpAnyH_ready (rs := [2]) (by kernel_rfl) (by simp) ?_
      refine AllReadyH.cons rfl (fun K hK => ?_) AllReadyH.nil
      go_simp
      (with_reducible refine (specRoutineText_is A1 k c1 ps hh _ (Q1.out.ext (Ext.refl _)) s HRT.out).mono ?_)
      rintro e v1 ⟨rfl, hxv1⟩
      (try go_wp2_with fail)
      have hv1 : Hid (Ext ((w7.alloc (.cells #[.int .i64 ha, .slice Aa ka ca] 29)).alloc (.cells #[.int .i64 hb2, .slice Ab kb cb] 29)).drew v1) := hxv1
      refine hK.out _ _ (HoldsE hHeld hxv1) (fun hHeldN => ?_)
      clear hK K hHeld
      have hHeld := hHeldN
      clear hHeldN
      (try simp only [List.getElem_toArray, List.getElem_cons_succ, List.getElem_cons_zero, Act.put, List.setIfInBounds_toArray, List.set_cons_zero, List.set_cons_succ])
      refine wpAnyH_take (i := 3) (v := ?_) rfl (by kernel_rfl) (by kernel_rfl) (by kernel_rfl) (fun _ _ _ h => h) (Or.inl ⟨by rfl, ?hyh3⟩) hHeld ?_
      case hyh3 => ((intro wz hSw); (simp only [Holds_cons, Holds_nil, and_true] at hSw); (obtain ⟨_, _, _, _, _, _, _, _, _, _, _, _⟩ := hSw); go_simp; (try with_reducible rfl))
      (try simp only [List.getElem_toArray, List.getElem_cons_succ, List.getElem_cons_zero, Act.put, List.setIfInBounds_toArray, List.set_cons_zero, List.set_cons_succ])
      refine wpAnyH_take (i := 4) (v := ?_) rfl (by kernel_rfl) (by kernel_rfl) (by kernel_rfl) (fun _ _ _ h => h) (Or.inl ⟨by rfl, ?hyh4⟩) hHeld ?_
      case hyh4 => ((intro wz hSw); (simp only [Holds_cons, Holds_nil, and_true] at hSw); (obtain ⟨_, _, _, _, _, _, _, _, _, _, _, _⟩ := hSw); go_simp; (try with_reducible rfl))
      (try simp only [List.getElem_toArray, List.getElem_cons_succ, List.getElem_cons_zero, Act.put, List.setIfInBounds_toArray, List.set_cons_zero, List.set_cons_succ])
      refine wpAnyH_take (i := 5) (v := ?_) rfl (by kernel_rfl) (by kernel_rfl) (by kernel_rfl) (fun _ _ _ h => h) (Or.inl ⟨by rfl, ?hyh5⟩) hHeld ?_
      case hyh5 => ((intro wz hSw); (simp only [Holds_cons, Holds_nil, and_true] at hSw); (obtain ⟨_, _, _, _, _, _, _, _, _, _, _, _⟩ := hSw); go_simp; (try with_reducible rfl))
      (try simp only [List.getElem_toArray, List.getElem_cons_succ, List.getElem_cons_zero, Act.put, List.setIfInBounds_toArray, List.set_cons_zero, List.set_cons_succ])
      refine wpAnyH_take (i := 6) (v := ?_) rfl (by kernel_rfl) (by kernel_rfl) (by kernel_rfl) (fun _ _ _ h => h) (Or.inl ⟨by rfl, ?hyh6⟩) hHeld ?_
      case hyh6 => ((intro wz hSw); (simp only [Holds_cons, Holds_nil, and_true] at hSw); (obtain ⟨_, _, _, _, _, _, _, _, _, _, _, _⟩ := hSw); go_simp; (try with_reducible rfl))
      (try simp only [List.getElem_toArray, List.getElem_cons_succ, List.getElem_cons_zero, Act.put, List.setIfInBounds_toArray, List.set_cons_zero, List.set_cons_succ])
      refine wpAnyH_take (i := 7) (v := ?_) rfl (by kernel_rfl) (by kernel_rfl) (by kernel_rfl) (fun _ _ _ h => h) (Or.inl ⟨by rfl, ?hyh7⟩) hHeld ?_
      case hyh7 => ((intro wz hSw); (simp only [Holds_cons, Holds_nil, and_true] at hSw); (obtain ⟨_, _, _, _, _, _, _, _, _, _, _, _⟩ := hSw); go_simp; (try with_reducible rfl))
      (try simp only [List.getElem_toArray, List.getElem_cons_succ, List.getElem_cons_zero, Act.put, List.setIfInBounds_toArray, List.set_cons_zero, List.set_cons_succ])
      refine wpAnyH_take (i := 8) (v := ?_) rfl (by kernel_rfl) (by kernel_rfl) (by kernel_rfl) (fun _ _ _ h => h) (Or.inl ⟨by rfl, ?hyh8⟩) hHeld ?_
      case hyh8 => ((intro wz hSw); (simp only [Holds_cons, Holds_nil, and_true] at hSw); (obtain ⟨_, _, _, _, _, _, _, _, _, _, _, _⟩ := hSw); go_simp; (try with_reducible rfl))
      (try simp only [List.getElem_toArray, List.getElem_cons_succ, List.getElem_cons_zero, Act.put, List.setIfInBounds_toArray, List.set_cons_zero, List.set_cons_succ])
      refine wpAnyH_take (i := 9) (v := ?_) rfl (by kernel_rfl) (by kernel_rfl) (by kernel_rfl) (fun _ _ _ h => h) (Or.inl ⟨by rfl, ?hyh9⟩) hHeld ?_
      case hyh9 => ((intro wz hSw); (simp only [Holds_cons, Holds_nil, and_true] at hSw); (obtain ⟨_, _, _, _, _, _, _, _, _, _, _, _⟩ := hSw); go_simp; (try with_reducible rfl))
      (try simp only [List.getElem_toArray, List.getElem_cons_succ, List.getElem_cons_zero, Act.put, List.setIfInBounds_toArray, List.set_cons_zero, List.set_cons_succ])
      refine wpAnyH_take (i := 10) (v := ?_) rfl (by kernel_rfl) (by kernel_rfl) (by kernel_rfl) (fun _ _ _ h => h) (Or.inl ⟨by rfl, ?hyh10⟩) hHeld ?_
      case hyh10 => ((intro wz hSw); (simp only [Holds_cons, Holds_nil, and_true] at hSw); (obtain ⟨_, _, _, _, _, _, _, _, _, _, _, _⟩ := hSw); go_simp; (try with_reducible rfl))
      (try simp only [List.getElem_toArray, List.getElem_cons_succ, List.getElem_cons_zero, Act.put, List.setIfInBounds_toArray, List.set_cons_zero, List.set_cons_succ])
      refine wpAnyH_take (i := 11) (v := ?_) rfl (by kernel_rfl) (by kernel_rfl) (by kernel_rfl) (fun _ _ _ h => h) (Or.inl ⟨by rfl, ?hyh11⟩) hHeld ?_
      case hyh11 => ((intro wz hSw); (simp only [Holds_cons, Holds_nil, and_true] at hSw); (obtain ⟨_, _, _, _, _, _, _, _, _, _, _, _⟩ := hSw); go_simp; (try with_reducible rfl))
      (try simp only [List.getElem_toArray, List.getElem_cons_succ, List.getElem_cons_zero, Act.put, List.setIfInBounds_toArray, List.set_cons_zero, List.set_cons_succ])
      refine wpAnyH_take (i := 12) (v := ?_) rfl (by kernel_rfl) (by kernel_rfl) (by kernel_rfl) (fun _ _ _ h => h) (Or.inl ⟨by rfl, ?hyh12⟩) hHeld ?_
      case hyh12 => ((intro wz hSw); (simp only [Holds_cons, Holds_nil, and_true] at hSw); (obtain ⟨_, _, _, _, _, _, _, _, _, _, _, _⟩ := hSw); go_simp; (try with_reducible rfl))
      (try simp only [List.getElem_toArray, List.getElem_cons_succ, List.getElem_cons_zero, Act.put, List.setIfInBounds_toArray, List.set_cons_zero, List.set_cons_succ])
      refine wpAnyH_take (i := 13) (v := ?_) rfl (by kernel_rfl) (by kernel_rfl) (by kernel_rfl) (fun _ _ _ h => h) (Or.inl ⟨by rfl, ?hyh13⟩) hHeld ?_
      case hyh13 => ((intro wz hSw); (simp only [Holds_cons, Holds_nil, and_true] at hSw); (obtain ⟨_, _, _, _, _, _, _, _, _, _, _, _⟩ := hSw); go_simp; (try with_reducible rfl))
      (try simp only [List.getElem_toArray, List.getElem_cons_succ, List.getElem_cons_zero, Act.put, List.setIfInBounds_toArray, List.set_cons_zero, List.set_cons_succ])
      refine wpAnyH_take (i := 14) (v := ?_) rfl (by kernel_rfl) (by kernel_rfl) (by kernel_rfl) (fun _ _ _ h => h) (Or.inl ⟨by rfl, ?hyh14⟩) hHeld ?_
      case hyh14 => ((intro wz hSw); (simp only [Holds_cons, Holds_nil, and_true] at hSw); (obtain ⟨_, _, _, _, _, _, _, _, _, _, _, _⟩ := hSw); go_simp; (try with_reducible rfl))
      (try simp only [List.getElem_toArray, List.getElem_cons_succ, List.getElem_cons_zero, Act.put, List.setIfInBounds_toArray, List.set_cons_zero, List.set_cons_succ])
      refine wpAnyH_take (i := 15) (v := ?_) rfl (by kernel_rfl) (by kernel_rfl) (by kernel_rfl) (fun _ _ _ h => h) (Or.inl ⟨by rfl, ?hyh15⟩) hHeld ?_
      case hyh15 => ((intro wz hSw); (simp only [Holds_cons, Holds_nil, and_true] at hSw); (obtain ⟨_, _, _, _, _, _, _, _, _, _, _, _⟩ := hSw); go_simp; (try with_reducible rfl))
      (try simp only [List.getElem_toArray, List.getElem_cons_succ, List.getElem_cons_zero, Act.put, List.setIfInBounds_toArray, List.set_cons_zero, List.set_cons_succ])
      refine wpAnyH_ready (rs := [16]) (by kernel_rfl) (by simp) ?_
      refine AllReadyH.cons rfl (fun K hK => ?_) AllReadyH.nil
      go_simp
      (with_reducible refine (specSameRoutine_is _ _ _ _ _ _ _ _ _ _ _ (Q5.out.ext hv1.out) (Q1.out.ext hv1.out) true (decide_eq_true ⟨rfl, rfl⟩)).mono ?_)
      rintro e v2 ⟨rfl, hxv2⟩
      (try go_wp2_with fail)
      have hv2 : Hid (Ext ((w7.alloc (.cells #[.int .i64 ha, .slice Aa ka ca] 29)).alloc (.cells #[.int .i64 hb2, .slice Ab kb cb] 29)).drew v2) := hv1.out.trans hxv2
      refine hK.out _ _ (HoldsE hHeld hxv2) (fun hHeldN => ?_)
      clear hK K hHeld
      have hHeld := hHeldN
      clear hHeldN
      (try simp only [List.getElem_toArray, List.getElem_cons_succ, List.getElem_cons_zero, Act.put, List.setIfInBounds_toArray, List.set_cons_zero, List.set_cons_succ])
      refine wpAnyH_take (i := 17) (v := ?_) rfl (by kernel_rfl) (by kernel_rfl) (by kernel_rfl) (fun _ _ _ h => h) (Or.inl ⟨by rfl, ?hyh16⟩) hHeld ?_
      case hyh16 => ((intro wz hSw); (simp only [Holds_cons, Holds_nil, and_true] at hSw); (obtain ⟨_, _, _, _, _, _, _, _, _, _, _, _⟩ := hSw); go_simp; (try with_reducible rfl))
      (try simp only [List.getElem_toArray, List.getElem_cons_succ, List.getElem_cons_zero, Act.put, List.setIfInBounds_toArray, List.set_cons_zero, List.set_cons_succ])
      refine wpAnyH_take (i := 18) (v := ?_) rfl (by kernel_rfl) (by kernel_rfl) (by kernel_rfl) (fun _ _ _ h => h) (Or.inl ⟨by rfl, ?hyh17⟩) hHeld ?_
      case hyh17 => ((intro wz hSw); (simp only [Holds_cons, Holds_nil, and_true] at hSw); (obtain ⟨_, _, _, _, _, _, _, _, _, _, _, _⟩ := hSw); go_simp; (try with_reducible rfl))
      (try simp only [List.getElem_toArray, List.getElem_cons_succ, List.getElem_cons_zero, Act.put, List.setIfInBounds_toArray, List.set_cons_zero, List.set_cons_succ])
      refine wpAnyH_take (i := 19) (v := ?_) rfl (by kernel_rfl) (by kernel_rfl) (by kernel_rfl) (fun _ _ _ h => h) (Or.inl ⟨by rfl, ?hyh18⟩) hHeld ?_
      case hyh18 => ((intro wz hSw); (simp only [Holds_cons, Holds_nil, and_true] at hSw); (obtain ⟨_, _, _, _, _, _, _, _, _, _, _, _⟩ := hSw); go_simp; (try with_reducible rfl))
      (try simp only [List.getElem_toArray, List.getElem_cons_succ, List.getElem_cons_zero, Act.put, List.setIfInBounds_toArray, List.set_cons_zero, List.set_cons_succ])
      refine wpAnyH_take (i := 20) (v := ?_) rfl (by kernel_rfl) (by kernel_rfl) (by kernel_rfl) (fun _ _ _ h => h) (Or.inl ⟨by rfl, ?hyh19⟩) hHeld ?_
      case hyh19 => ((intro wz hSw); (simp only [Holds_cons, Holds_nil, and_true] at hSw); (obtain ⟨_, _, _, _, _, _, _, _, _, _, _, _⟩ := hSw); go_simp; (try with_reducible rfl))
      (try simp only [List.getElem_toArray, List.getElem_cons_succ, List.getElem_cons_zero, Act.put, List.setIfInBounds_toArray, List.set_cons_zero, List.set_cons_succ])
      refine wpAnyH_take (i := 21) (v := ?_) rfl (by kernel_rfl) (by kernel_rfl) (by kernel_rfl) (fun _ _ _ h => h) (Or.inl ⟨by rfl, ?hyh20⟩) hHeld ?_
      case hyh20 => ((intro wz hSw); (simp only [Holds_cons, Holds_nil, and_true] at hSw); (obtain ⟨_, _, _, _, _, _, _, _, _, _, _, _⟩ := hSw); go_simp; (try with_reducible rfl))
      (try simp only [List.getElem_toArray, List.getElem_cons_succ, List.getElem_cons_zero, Act.put, List.setIfInBounds_toArray, List.set_cons_zero, List.set_cons_succ])
      refine wpAnyH_take (i := 22) (v := ?_) rfl (by kernel_rfl) (by kernel_rfl) (by kernel_rfl) (fun _ _ _ h => h) (Or.inl ⟨by rfl, ?hyh21⟩) hHeld ?_
      case hyh21 => ((intro wz hSw); (simp only [Holds_cons, Holds_nil, and_true] at hSw); (obtain ⟨_, _, _, _, _, _, _, _, _, _, _, _⟩ := hSw); go_simp; (try with_reducible rfl))
      (try simp only [List.getElem_toArray, List.getElem_cons_succ, List.getElem_cons_zero, Act.put, List.setIfInBounds_toArray, List.set_cons_zero, List.set_cons_succ])
      refine wpAnyH_take (i := 23) (v := ?_) rfl (by kernel_rfl) (by kernel_rfl) (by kernel_rfl) (fun _ _ _ h => h) (Or.inl ⟨by rfl, ?hyh22⟩) hHeld ?_
      case hyh22 => ((intro wz hSw); (simp only [Holds_cons, Holds_nil, and_true] at hSw); (obtain ⟨_, _, _, _, _, _, _, _, _, _, _, _⟩ := hSw); go_simp; (try with_reducible rfl))
      (try simp only [List.getElem_toArray, List.getElem_cons_succ, List.getElem_cons_zero, Act.put, List.setIfInBounds_toArray, List.set_cons_zero, List.set_cons_succ])
      refine wpAnyH_take (i := 24) (v := ?_) rfl (by kernel_rfl) (by kernel_rfl) (by kernel_rfl) (fun _ _ _ h => h) (Or.inl ⟨by rfl, ?hyh23⟩) hHeld ?_
      case hyh23 => ((intro wz hSw); (simp only [Holds_cons, Holds_nil, and_true] at hSw); (obtain ⟨_, _, _, _, _, _, _, _, _, _, _, _⟩ := hSw); go_simp; (try with_reducible rfl))
      (try simp only [List.getElem_toArray, List.getElem_cons_succ, List.getElem_cons_zero, Act.put, List.setIfInBounds_toArray, List.set_cons_zero, List.set_cons_succ])
      refine wpAnyH_take (i := 25) (v := ?_) rfl (by kernel_rfl) (by kernel_rfl) (by kernel_rfl) (fun _ _ _ h => h) (Or.inl ⟨by rfl, ?hyh24⟩) hHeld ?_
      case hyh24 => ((intro wz hSw); (simp only [Holds_cons, Holds_nil, and_true] at hSw); (obtain ⟨_, _, _, _, _, _, _, _, _, _, _, _⟩ := hSw); go_simp; (try with_reducible rfl))
      (try simp only [List.getElem_toArray, List.getElem_cons_succ, List.getElem_cons_zero, Act.put, List.setIfInBounds_toArray, List.set_cons_zero, List.set_cons_succ])
      refine wpAnyH_take (i := 26) (v := ?_) rfl (by kernel_rfl) (by kernel_rfl) (by kernel_rfl) (fun _ _ _ h => h) (Or.inl ⟨by rfl, ?hyh25⟩) hHeld ?_
      case hyh25 => ((intro wz hSw); (simp only [Holds_cons, Holds_nil, and_true] at hSw); (obtain ⟨_, _, _, _, _, _, _, _, _, _, _, _⟩ := hSw); go_simp; (try with_reducible rfl))
      (try simp only [List.getElem_toArray, List.getElem_cons_succ, List.getElem_cons_zero, Act.put, List.setIfInBounds_toArray, List.set_cons_zero, List.set_cons_succ])
      refine wpAnyH_ready (rs := [27]) (by kernel_rfl) (by simp) ?_
      refine AllReadyH.cons rfl (fun K hK => ?_) AllReadyH.nil
      go_simp
      (with_reducible refine (specSameRoutine_is _ _ _ _ _ _ _ _ _ _ _ (Q8.out.ext hv2.out) (Q9.out.ext hv2.out) true (decide_eq_true ⟨rfl, rfl⟩)).mono ?_)
      rintro e v3 ⟨rfl, hxv3⟩
      (try go_wp2_with fail)
      have hv3 : Hid (Ext ((w7.alloc (.cells #[.int .i64 ha, .slice Aa ka ca] 29)).alloc (.cells #[.int .i64 hb2, .slice Ab kb cb] 29)).drew v3) := hv2.out.trans hxv3
      refine hK.out _ _ (HoldsE hHeld hxv3) (fun hHeldN => ?_)
      clear hK K hHeld
      have hHeld := hHeldN
      clear hHeldN
      (try simp only [List.getElem_toArray, List.getElem_cons_succ, List.getElem_cons_zero, Act.put, List.setIfInBounds_toArray, List.set_cons_zero, List.set_cons_succ])
      refine wpAnyH_take (i := 28) (v := ?_) rfl (by kernel_rfl) (by kernel_rfl) (by kernel_rfl) (fun _ _ _ h => h) (Or.inl ⟨by rfl, ?hyh26⟩) hHeld ?_
      case hyh26 => ((intro wz hSw); (simp only [Holds_cons, Holds_nil, and_true] at hSw); (obtain ⟨_, _, _, _, _, _, _, _, _, _, _, _⟩ := hSw); go_simp; (try with_reducible rfl))
      (try simp only [List.getElem_toArray, List.getElem_cons_succ, List.getElem_cons_zero, Act.put, List.setIfInBounds_toArray, List.set_cons_zero, List.set_cons_succ])
      refine wpAnyH_take (i := 29) (v := ?_) rfl (by kernel_rfl) (by kernel_rfl) (by kernel_rfl) (fun _ _ _ h => h) (Or.inl ⟨by rfl, ?hyh27⟩) hHeld ?_
      case hyh27 => ((intro wz hSw); (simp only [Holds_cons, Holds_nil, and_true] at hSw); (obtain ⟨_, _, _, _, _, _, _, _, _, _, _, _⟩ := hSw); go_simp; (try with_reducible rfl))
      (try simp only [List.getElem_toArray, List.getElem_cons_succ, List.getElem_cons_zero, Act.put, List.setIfInBounds_toArray, List.set_cons_zero, List.set_cons_succ])
      refine wpAnyH_take (i := 30) (v := ?_) rfl (by kernel_rfl) (by kernel_rfl) (by kernel_rfl) (fun _ _ _ h => h) (Or.inl ⟨by rfl, ?hyh28⟩) hHeld ?_
      case hyh28 => ((intro wz hSw); (simp only [Holds_cons, Holds_nil, and_true] at hSw); (obtain ⟨_, _, _, _, _, _, _, _, _, _, _, _⟩ := hSw); go_simp; (try with_reducible rfl))
      (try simp only [List.getElem_toArray, List.getElem_cons_succ, List.getElem_cons_zero, Act.put, List.setIfInBounds_toArray, List.set_cons_zero, List.set_cons_succ])
      refine wpAnyH_take (i := 31) (v := ?_) rfl (by kernel_rfl) (by kernel_rfl) (by kernel_rfl) (fun _ _ _ h => h) (Or.inl ⟨by rfl, ?hyh29⟩) hHeld ?_
      case hyh29 => ((intro wz hSw); (simp only [Holds_cons, Holds_nil, and_true] at hSw); (obtain ⟨_, _, _, _, _, _, _, _, _, _, _, _⟩ := hSw); go_simp; (try with_reducible rfl))
      (try simp only [List.getElem_toArray, List.getElem_cons_succ, List.getElem_cons_zero, Act.put, List.setIfInBounds_toArray, List.set_cons_zero, List.set_cons_succ])
      refine wpAnyH_take (i := 32) (v := ?_) rfl (by kernel_rfl) (by kernel_rfl) (by kernel_rfl) (fun _ _ _ h => h) (Or.inl ⟨by rfl, ?hyh30⟩) hHeld ?_
      case hyh30 => ((intro wz hSw); (simp only [Holds_cons, Holds_nil, and_true] at hSw); (obtain ⟨_, _, _, _, _, _, _, _, _, _, _, _⟩ := hSw); go_simp; (try with_reducible rfl))
      (try simp only [List.getElem_toArray, List.getElem_cons_succ, List.getElem_cons_zero, Act.put, List.setIfInBounds_toArray, List.set_cons_zero, List.set_cons_succ])
      refine wpAnyH_take (i := 33) (v := undef) rfl (by kernel_rfl) (by kernel_rfl) (by kernel_rfl) (fun _ _ _ h => h) (Or.inr ⟨by rfl, rfl⟩) hHeld ?_
      (try simp only [List.getElem_toArray, List.getElem_cons_succ, List.getElem_cons_zero, Act.put, List.setIfInBounds_toArray, List.set_cons_zero, List.set_cons_succ])
      refine wpAnyH_take (i := 34) (v := undef) rfl (by kernel_rfl) (by kernel_rfl) (by kernel_rfl) (fun _ _ _ h => h) (Or.inr ⟨by rfl, rfl⟩) hHeld ?_
      (try simp only [List.getElem_toArray, List.getElem_cons_succ, List.getElem_cons_zero, Act.put, List.setIfInBounds_toArray, List.set_cons_zero, List.set_cons_succ])
      refine wpAnyH_take (i := 35) (v := undef) rfl (by kernel_rfl) (by kernel_rfl) (by kernel_rfl) (fun _ _ _ h => h) (Or.inr ⟨by rfl, rfl⟩) hHeld ?_
      (try simp only [List.getElem_toArray, List.getElem_cons_succ, List.getElem_cons_zero, Act.put, List.setIfInBounds_toArray, List.set_cons_zero, List.set_cons_succ])
      refine wpAnyH_take (i := 36) (v := undef) rfl (by kernel_rfl) (by kernel_rfl) (by kernel_rfl) (fun _ _ _ h => h) (Or.inr ⟨by rfl, rfl⟩) hHeld ?_
      (try simp only [List.getElem_toArray, List.getElem_cons_succ, List.getElem_cons_zero, Act.put, List.setIfInBounds_toArray, List.set_cons_zero, List.set_cons_succ])
      refine wpAnyH_take (i := 37) (v := ?_) rfl (by kernel_rfl) (by kernel_rfl) (by kernel_rfl) (fun _ _ _ h => h) (Or.inl ⟨by rfl, ?hyh31⟩) hHeld ?_
      case hyh31 => ((intro wz hSw); (simp only [Holds_cons, Holds_nil, and_true] at hSw); (obtain ⟨_, _, _, _, _, _, _, _, _, _, _, _⟩ := hSw); go_simp; (try with_reducible rfl))
      (try simp only [List.getElem_toArray, List.getElem_cons_succ, List.getElem_cons_zero, Act.put, List.setIfInBounds_toArray, List.set_cons_zero, List.set_cons_succ])
      refine wpAnyH_take (i := 38) (v := ?_) rfl (by kernel_rfl) (by kernel_rfl) (by kernel_rfl) (fun _ _ _ h => h) (Or.inl ⟨by rfl, ?hyh32⟩) hHeld ?_
      case hyh32 => ((intro wz hSw); (simp only [Holds_cons, Holds_nil, and_true] at hSw); (obtain ⟨_, _, _, _, _, _, _, _, _, _, _, _⟩ := hSw); go_simp; (try with_reducible rfl))
      (try simp only [List.getElem_toArray, List.getElem_cons_succ, List.getElem_cons_zero, Act.put, List.setIfInBounds_toArray, List.set_cons_zero, List.set_cons_succ])
      refine wpAnyH_take (i := 39) (v := ?_) rfl (by kernel_rfl) (by kernel_rfl) (by kernel_rfl) (fun _ _ _ h => h) (Or.inl ⟨by rfl, ?hyh33⟩) hHeld ?_
      case hyh33 => ((intro wz hSw); (simp only [Holds_cons, Holds_nil, and_true] at hSw); (obtain ⟨_, _, _, _, _, _, _, _, _, _, _, _⟩ := hSw); go_simp; (try with_reducible rfl))
      (try simp only [List.getElem_toArray, List.getElem_cons_succ, List.getElem_cons_zero, Act.put, List.setIfInBounds_toArray, List.set_cons_zero, List.set_cons_succ])
      refine wpAnyH_take (i := 40) (v := ?_) rfl (by kernel_rfl) (by kernel_rfl) (by kernel_rfl) (fun _ _ _ h => h) (Or.inl ⟨by rfl, ?hyh34⟩) hHeld ?_
      case hyh34 => ((intro wz hSw); (simp only [Holds_cons, Holds_nil, and_true] at hSw); (obtain ⟨_, _, _, _, _, _, _, _, _, _, _, _⟩ := hSw); go_simp; (try with_reducible rfl))
      (try simp only [List.getElem_toArray, List.getElem_cons_succ, List.getElem_cons_zero, Act.put, List.setIfInBounds_toArray, List.set_cons_zero, List.set_cons_succ])
      refine wpAnyH_take (i := 41) (v := ?_) rfl (by kernel_rfl) (by kernel_rfl) (by kernel_rfl) (fun _ _ _ h => h) (Or.inl ⟨by rfl, ?hyh35⟩) hHeld ?_
      case hyh35 => ((intro wz hSw); (simp only [Holds_cons, Holds_nil, and_true] at hSw); (obtain ⟨_, _, _, _, _, _, _, _, _, _, _, _⟩ := hSw); go_simp; (try with_reducible rfl))
      (try simp only [List.getElem_toArray, List.getElem_cons_succ, List.getElem_cons_zero, Act.put, List.setIfInBounds_toArray, List.set_cons_zero, List.set_cons_succ])
      refine wpAnyH_take (i := 43) (v := ?_) rfl (by kernel_rfl) (by kernel_rfl) (by kernel_rfl) (fun _ _ _ h => h) (Or.inl ⟨by rfl, ?hyh36⟩) hHeld ?_
      case hyh36 => ((intro wz hSw); (simp only [Holds_cons, Holds_nil, and_true] at hSw); (obtain ⟨_, _, _, _, _, _, _, _, _, _, _, _⟩ := hSw); go_simp; (try with_reducible rfl))
      (try simp only [List.getElem_toArray, List.getElem_cons_succ, List.getElem_cons_zero, Act.put, List.setIfInBounds_toArray, List.set_cons_zero, List.set_cons_succ])
      refine wpAnyH_take (i := 44) (v := ?_) rfl (by kernel_rfl) (by kernel_rfl) (by kernel_rfl) (fun _ _ _ h => h) (Or.inl ⟨by rfl, ?hyh37⟩) hHeld ?_
      case hyh37 => ((intro wz hSw); (simp only [Holds_cons, Holds_nil, and_true] at hSw); (obtain ⟨_, _, _, _, _, _, _, _, _, _, _, _⟩ := hSw); go_simp; (try with_reducible rfl))
      (try simp only [List.getElem_toArray, List.getElem_cons_succ, List.getElem_cons_zero, Act.put, List.setIfInBounds_toArray, List.set_cons_zero, List.set_cons_succ])
      refine wpAnyH_ready (rs := [42]) (by kernel_rfl) (by simp) ?_
      refine AllReadyH.cons rfl (fun K hK => ?_) AllReadyH.nil
      go_simp
      (with_reducible refine (implSameRoutine_is _ _ _ _ _ _ _ _ _ _ _ (Qa.out.ext hv3.out) (Qb.out.ext hv3.out) v HV.out).mono ?_)
      rintro e v4 ⟨rfl, hxv4⟩
      (try go_wp2_with fail)
      have hv4 : Hid (Ext ((w7.alloc (.cells #[.int .i64 ha, .slice Aa ka ca] 29)).alloc (.cells #[.int .i64 hb2, .slice Ab kb cb] 29)).drew v4) := hv3.out.trans hxv4
      refine hK.out _ _ (HoldsE hHeld hxv4) (fun hHeldN => ?_)
      clear hK K hHeld
      have hHeld := hHeldN
      clear hHeldN
      (try simp only [List.getElem_toArray, List.getElem_cons_succ, List.getElem_cons_zero, Act.put, List.setIfInBounds_toArray, List.set_cons_zero, List.set_cons_succ])
      refine wpAnyH_ready (rs := [45]) (by kernel_rfl) (by simp) ?_
      refine AllReadyH.cons rfl (fun K hK => ?_) AllReadyH.nil
      go_simp
      (with_reducible refine (specSameRoutine_is _ _ _ _ _ _ _ _ _ _ _ (Qa.out.ext hv4.out) (Qb.out.ext hv4.out) v HV.out).mono ?_)
      rintro e v5 ⟨rfl, hxv5⟩
      (try go_wp2_with fail)
      have hv5 : Hid (Ext ((w7.alloc (.cells #[.int .i64 ha, .slice Aa ka ca] 29)).alloc (.cells #[.int .i64 hb2, .slice Ab kb cb] 29)).drew v5) := hv4.out.trans hxv5
      refine hK.out _ _ (HoldsE hHeld hxv5) (fun hHeldN => ?_)
      clear hK K hHeld
      have hHeld := hHeldN
      clear hHeldN
      (try simp only [List.getElem_toArray, List.getElem_cons_succ, List.getElem_cons_zero, Act.put, List.setIfInBounds_toArray, List.set_cons_zero, List.set_cons_succ])
      refine wpAnyH_take (i := 46) (v := ?_) rfl (by kernel_rfl) (by kernel_rfl) (by kernel_rfl) (fun _ _ _ h => h) (Or.inl ⟨by rfl, ?hyh38⟩) hHeld ?_
      case hyh38 => ((intro wz hSw); (simp only [Holds_cons, Holds_nil, and_true] at hSw); (obtain ⟨_, _, _, _, _, _, _, _, _, _, _, _⟩ := hSw); go_simp; (try with_reducible rfl))
      (try simp only [List.getElem_toArray, List.getElem_cons_succ, List.getElem_cons_zero, Act.put, List.setIfInBounds_toArray, List.set_cons_zero, List.set_cons_succ])
      refine wpAnyH_take (i := 47) (v := ?_) rfl (by kernel_rfl) (by kernel_rfl) (by kernel_rfl) (fun _ _ _ h => h) (Or.inl ⟨by rfl, ?hyh39⟩) hHeld ?_
      case hyh39 => ((intro wz hSw); (simp only [Holds_cons, Holds_nil, and_true] at hSw); (obtain ⟨_, _, _, _, _, _, _, _, _, _, _, _⟩ := hSw); go_simp; (try with_reducible rfl))
      (try simp only [List.getElem_toArray, List.getElem_cons_succ, List.getElem_cons_zero, Act.put, List.setIfInBounds_toArray, List.set_cons_zero, List.set_cons_succ])
      refine wpAnyH_take (i := 48) (v := ?_) rfl (by kernel_rfl) (by kernel_rfl) (by kernel_rfl) (fun _ _ _ h => h) (Or.inl ⟨by rfl, ?hyh40⟩) hHeld ?_
      case hyh40 => ((intro wz hSw); (simp only [Holds_cons, Holds_nil, and_true] at hSw); (obtain ⟨_, _, _, _, _, _, _, _, _, _, _, _⟩ := hSw); go_simp; (try with_reducible rfl))
      (try simp only [List.getElem_toArray, List.getElem_cons_succ, List.getElem_cons_zero, Act.put, List.setIfInBounds_toArray, List.set_cons_zero, List.set_cons_succ])
      refine wpAnyH_done (by kernel_rfl) ?_ _
      go_wp2
      go_ret
      exact ⟨rfl, Ext.below (hE0.out.trans hv5.out)⟩
    · skip
      have hsne : (⟨#[]⟩ : ByteArray).toList.isEmpty = true := by rw [ByteArray.toList_eq]; rfl
      refine wp_region_held_drew (S := Holds [(⟨w1.heap.size, 0, none⟩, .int .i64 hh), (⟨w1.heap.size, 1, none⟩, .slice A1 k c1), (⟨w3.heap.size, 0, none⟩, .int .i64 hb), (⟨w3.heap.size, 1, none⟩, .slice A5 pb.length c5), (⟨w5.heap.size, 0, none⟩, .int .i64 h2), (⟨w5.heap.size, 1, none⟩, .slice A8 qs.length c8), (⟨w6.heap.size, 0, none⟩, .int .i64 h2), (⟨w6.heap.size, 1, none⟩, .slice A9 qs.length c9), (⟨w7.heap.size, 0, none⟩, .int .i64 ha), (⟨w7.heap.size, 1, none⟩, .slice Aa ka ca), (⟨w7.heap.size + 1, 0, none⟩, .int .i64 hb2), (⟨w7.heap.size + 1, 1, none⟩, .slice Ab kb cb)]) (by kernel_rfl) (by (simp only [Holds_cons, Holds_nil, and_true]); exact ⟨hc00, hc01, hc10, hc11, hc20, hc21, hc30, hc31, hca0, hca1, hcb0, hcb1⟩) (fun hHeld => ?_)
      refine wpAnyH_take (i := 0) (v := ?_) rfl (by kernel_rfl) (by kernel_rfl) (by kernel_rfl) (fun _ _ _ h => h) (Or.inl ⟨by rfl, ?hyh41⟩) hHeld ?_
      case hyh41 => ((intro wz hSw); (simp only [Holds_cons, Holds_nil, and_true] at hSw); (obtain ⟨_, _, _, _, _, _, _, _, _, _, _, _⟩ := hSw); go_simp; (try with_reducible rfl))
      (try simp only [List.getElem_toArray, List.getElem_cons_succ, List.getElem_cons_zero, Act.put, List.setIfInBounds_toArray, List.set_cons_zero, List.set_cons_succ])
      refine wpAnyH_take (i := 1) (v := ?_) rfl (by kernel_rfl) (by kernel_rfl) (by kernel_rfl) (fun _ _ _ h => h) (Or.inl ⟨by rfl, ?hyh42⟩) hHeld ?_
      case hyh42 => ((intro wz hSw); (simp only [Holds_cons, Holds_nil, and_true] at hSw); (obtain ⟨_, _, _, _, _, _, _, _, _, _, _, _⟩ := hSw); go_simp; (try with_reducible rfl))
      (try simp only [List.getElem_toArray, List.getElem_cons_succ, List.getElem_cons_zero, Act.put, List.setIfInBounds_toArray, List.set_cons_zero, List.set_cons_succ])
      refine wpAnyH_ready (rs := [2]) (by kernel_rfl) (by simp) ?_
      refine AllReadyH.cons rfl (fun K hK => ?_) AllReadyH.nil
      go_simp
      (with_reducible refine (specRoutineText_is A1 k c1 ps hh _ (Q1.out.ext (Ext.refl _)) ⟨#[]⟩ HRT.out).mono ?_)
      rintro e v1 ⟨rfl, hxv1⟩
      (try go_wp2_with fail)
      have hv1 : Hid (Ext ((w7.alloc (.cells #[.int .i64 ha, .slice Aa ka ca] 29)).alloc (.cells #[.int .i64 hb2, .slice Ab kb cb] 29)).drew v1) := hxv1
      refine hK.out _ _ (HoldsE hHeld hxv1) (fun hHeldN => ?_)
      clear hK K hHeld
      have hHeld := hHeldN
      clear hHeldN
      (try simp only [List.getElem_toArray, List.getElem_cons_succ, List.getElem_cons_zero, Act.put, List.setIfInBounds_toArray, List.set_cons_zero, List.set_cons_succ])
      refine wpAnyH_take (i := 3) (v := ?_) rfl (by kernel_rfl) (by kernel_rfl) (by kernel_rfl) (fun _ _ _ h => h) (Or.inl ⟨by rfl, ?hyh43⟩) hHeld ?_
      case hyh43 => ((intro wz hSw); (simp only [Holds_cons, Holds_nil, and_true] at hSw); (obtain ⟨_, _, _, _, _, _, _, _, _, _, _, _⟩ := hSw); go_simp; (try with_reducible rfl))
      (try simp only [List.getElem_toArray, List.getElem_cons_succ, List.getElem_cons_zero, Act.put, List.setIfInBounds_toArray, List.set_cons_zero, List.set_cons_succ])
      refine wpAnyH_take (i := 4) (v := ?_) rfl (by kernel_rfl) (by kernel_rfl) (by kernel_rfl) (fun _ _ _ h => h) (Or.inl ⟨by rfl, ?hyh44⟩) hHeld ?_
      case hyh44 => ((intro wz hSw); (simp only [Holds_cons, Holds_nil, and_true] at hSw); (obtain ⟨_, _, _, _, _, _, _, _, _, _, _, _⟩ := hSw); go_simp; (try with_reducible rfl))
      (try simp only [List.getElem_toArray, List.getElem_cons_succ, List.getElem_cons_zero, Act.put, List.setIfInBounds_toArray, List.set_cons_zero, List.set_cons_succ])
      refine wpAnyH_take (i := 5) (v := ?_) rfl (by kernel_rfl) (by kernel_rfl) (by kernel_rfl) (fun _ _ _ h => h) (Or.inl ⟨by rfl, ?hyh45⟩) hHeld ?_
      case hyh45 => ((intro wz hSw); (simp only [Holds_cons, Holds_nil, and_true] at hSw); (obtain ⟨_, _, _, _, _, _, _, _, _, _, _, _⟩ := hSw); go_simp; (try with_reducible rfl))
      (try simp only [List.getElem_toArray, List.getElem_cons_succ, List.getElem_cons_zero, Act.put, List.setIfInBounds_toArray, List.set_cons_zero, List.set_cons_succ])
      refine wpAnyH_take (i := 6) (v := ?_) rfl (by kernel_rfl) (by kernel_rfl) (by kernel_rfl) (fun _ _ _ h => h) (Or.inl ⟨by rfl, ?hyh46⟩) hHeld ?_
      case hyh46 => ((intro wz hSw); (simp only [Holds_cons, Holds_nil, and_true] at hSw); (obtain ⟨_, _, _, _, _, _, _, _, _, _, _, _⟩ := hSw); go_simp; (try with_reducible rfl))
      (try simp only [List.getElem_toArray, List.getElem_cons_succ, List.getElem_cons_zero, Act.put, List.setIfInBounds_toArray, List.set_cons_zero, List.set_cons_succ])
      refine wpAnyH_take (i := 7) (v := ?_) rfl (by kernel_rfl) (by kernel_rfl) (by kernel_rfl) (fun _ _ _ h => h) (Or.inl ⟨by rfl, ?hyh47⟩) hHeld ?_
      case hyh47 => ((intro wz hSw); (simp only [Holds_cons, Holds_nil, and_true] at hSw); (obtain ⟨_, _, _, _, _, _, _, _, _, _, _, _⟩ := hSw); go_simp; (try with_reducible rfl))
      (try simp only [List.getElem_toArray, List.getElem_cons_succ, List.getElem_cons_zero, Act.put, List.setIfInBounds_toArray, List.set_cons_zero, List.set_cons_succ])
      refine wpAnyH_take (i := 8) (v := ?_) rfl (by kernel_rfl) (by kernel_rfl) (by kernel_rfl) (fun _ _ _ h => h) (Or.inl ⟨by rfl, ?hyh48⟩) hHeld ?_
      case hyh48 => ((intro wz hSw); (simp only [Holds_cons, Holds_nil, and_true] at hSw); (obtain ⟨_, _, _, _, _, _, _, _, _, _, _, _⟩ := hSw); go_simp; (try with_reducible rfl))
      (try simp only [List.getElem_toArray, List.getElem_cons_succ, List.getElem_cons_zero, Act.put, List.setIfInBounds_toArray, List.set_cons_zero, List.set_cons_succ])
      refine wpAnyH_take (i := 9) (v := ?_) rfl (by kernel_rfl) (by kernel_rfl) (by kernel_rfl) (fun _ _ _ h => h) (Or.inl ⟨by rfl, ?hyh49⟩) hHeld ?_
      case hyh49 => ((intro wz hSw); (simp only [Holds_cons, Holds_nil, and_true] at hSw); (obtain ⟨_, _, _, _, _, _, _, _, _, _, _, _⟩ := hSw); go_simp; (try with_reducible rfl))
      (try simp only [List.getElem_toArray, List.getElem_cons_succ, List.getElem_cons_zero, Act.put, List.setIfInBounds_toArray, List.set_cons_zero, List.set_cons_succ])
      refine wpAnyH_take (i := 10) (v := ?_) rfl (by kernel_rfl) (by kernel_rfl) (by kernel_rfl) (fun _ _ _ h => h) (Or.inl ⟨by rfl, ?hyh50⟩) hHeld ?_
      case hyh50 => ((intro wz hSw); (simp only [Holds_cons, Holds_nil, and_true] at hSw); (obtain ⟨_, _, _, _, _, _, _, _, _, _, _, _⟩ := hSw); go_simp; (try with_reducible rfl))
      (try simp only [List.getElem_toArray, List.getElem_cons_succ, List.getElem_cons_zero, Act.put, List.setIfInBounds_toArray, List.set_cons_zero, List.set_cons_succ])
      refine wpAnyH_take (i := 11) (v := ?_) rfl (by kernel_rfl) (by kernel_rfl) (by kernel_rfl) (fun _ _ _ h => h) (Or.inl ⟨by rfl, ?hyh51⟩) hHeld ?_
      case hyh51 => ((intro wz hSw); (simp only [Holds_cons, Holds_nil, and_true] at hSw); (obtain ⟨_, _, _, _, _, _, _, _, _, _, _, _⟩ := hSw); go_simp; (try with_reducible rfl))
      (try simp only [List.getElem_toArray, List.getElem_cons_succ, List.getElem_cons_zero, Act.put, List.setIfInBounds_toArray, List.set_cons_zero, List.set_cons_succ])
      refine wpAnyH_take (i := 12) (v := ?_) rfl (by kernel_rfl) (by kernel_rfl) (by kernel_rfl) (fun _ _ _ h => h) (Or.inl ⟨by rfl, ?hyh52⟩) hHeld ?_
      case hyh52 => ((intro wz hSw); (simp only [Holds_cons, Holds_nil, and_true] at hSw); (obtain ⟨_, _, _, _, _, _, _, _, _, _, _, _⟩ := hSw); go_simp; (try with_reducible rfl))
      (try simp only [List.getElem_toArray, List.getElem_cons_succ, List.getElem_cons_zero, Act.put, List.setIfInBounds_toArray, List.set_cons_zero, List.set_cons_succ])
      refine wpAnyH_take (i := 13) (v := ?_) rfl (by kernel_rfl) (by kernel_rfl) (by kernel_rfl) (fun _ _ _ h => h) (Or.inl ⟨by rfl, ?hyh53⟩) hHeld ?_
      case hyh53 => ((intro wz hSw); (simp only [Holds_cons, Holds_nil, and_true] at hSw); (obtain ⟨_, _, _, _, _, _, _, _, _, _, _, _⟩ := hSw); go_simp; (try with_reducible rfl))
      (try simp only [List.getElem_toArray, List.getElem_cons_succ, List.getElem_cons_zero, Act.put, List.setIfInBounds_toArray, List.set_cons_zero, List.set_cons_succ])
      refine wpAnyH_take (i := 14) (v := undef) rfl (by kernel_rfl) (by kernel_rfl) (by kernel_rfl) (fun _ _ _ h => h) (Or.inr ⟨by rfl, rfl⟩) hHeld ?_
      (try simp only [List.getElem_toArray, List.getElem_cons_succ, List.getElem_cons_zero, Act.put, List.setIfInBounds_toArray, List.set_cons_zero, List.set_cons_succ])
      refine wpAnyH_take (i := 15) (v := undef) rfl (by kernel_rfl) (by kernel_rfl) (by kernel_rfl) (fun _ _ _ h => h) (Or.inr ⟨by rfl, rfl⟩) hHeld ?_
      (try simp only [List.getElem_toArray, List.getElem_cons_succ, List.getElem_cons_zero, Act.put, List.setIfInBounds_toArray, List.set_cons_zero, List.set_cons_succ])
      refine wpAnyH_take (i := 16) (v := undef) rfl (by kernel_rfl) (by kernel_rfl) (by kernel_rfl) (fun _ _ _ h => h) (Or.inr ⟨by rfl, rfl⟩) hHeld ?_
      (try simp only [List.getElem_toArray, List.getElem_cons_succ, List.getElem_cons_zero, Act.put, List.setIfInBounds_toArray, List.set_cons_zero, List.set_cons_succ])
      refine wpAnyH_take (i := 17) (v := ?_) rfl (by kernel_rfl) (by kernel_rfl) (by kernel_rfl) (fun _ _ _ h => h) (Or.inl ⟨by rfl, ?hyh54⟩) hHeld ?_
      case hyh54 => ((intro wz hSw); (simp only [Holds_cons, Holds_nil, and_true] at hSw); (obtain ⟨_, _, _, _, _, _, _, _, _, _, _, _⟩ := hSw); go_simp; (try with_reducible rfl))
      (try simp only [List.getElem_toArray, List.getElem_cons_succ, List.getElem_cons_zero, Act.put, List.setIfInBounds_toArray, List.set_cons_zero, List.set_cons_succ])
      refine wpAnyH_take (i := 18) (v := ?_) rfl (by kernel_rfl) (by kernel_rfl) (by kernel_rfl) (fun _ _ _ h => h) (Or.inl ⟨by rfl, ?hyh55⟩) hHeld ?_
      case hyh55 => ((intro wz hSw); (simp only [Holds_cons, Holds_nil, and_true] at hSw); (obtain ⟨_, _, _, _, _, _, _, _, _, _, _, _⟩ := hSw); go_simp; (try with_reducible rfl))
      (try simp only [List.getElem_toArray, List.getElem_cons_succ, List.getElem_cons_zero, Act.put, List.setIfInBounds_toArray, List.set_cons_zero, List.set_cons_succ])
      refine wpAnyH_take (i := 19) (v := ?_) rfl (by kernel_rfl) (by kernel_rfl) (by kernel_rfl) (fun _ _ _ h => h) (Or.inl ⟨by rfl, ?hyh56⟩) hHeld ?_
      case hyh56 => ((intro wz hSw); (simp only [Holds_cons, Holds_nil, and_true] at hSw); (obtain ⟨_, _, _, _, _, _, _, _, _, _, _, _⟩ := hSw); go_simp; (try with_reducible rfl))
      (try simp only [List.getElem_toArray, List.getElem_cons_succ, List.getElem_cons_zero, Act.put, List.setIfInBounds_toArray, List.set_cons_zero, List.set_cons_succ])
      refine wpAnyH_take (i := 20) (v := ?_) rfl (by kernel_rfl) (by kernel_rfl) (by kernel_rfl) (fun _ _ _ h => h) (Or.inl ⟨by rfl, ?hyh57⟩) hHeld ?_
      case hyh57 => ((intro wz hSw); (simp only [Holds_cons, Holds_nil, and_true] at hSw); (obtain ⟨_, _, _, _, _, _, _, _, _, _, _, _⟩ := hSw); go_simp; (try with_reducible rfl))
      (try simp only [List.getElem_toArray, List.getElem_cons_succ, List.getElem_cons_zero, Act.put, List.setIfInBounds_toArray, List.set_cons_zero, List.set_cons_succ])
      refine wpAnyH_take (i := 21) (v := ?_) rfl (by kernel_rfl) (by kernel_rfl) (by kernel_rfl) (fun _ _ _ h => h) (Or.inl ⟨by rfl, ?hyh58⟩) hHeld ?_
      case hyh58 => ((intro wz hSw); (simp only [Holds_cons, Holds_nil, and_true] at hSw); (obtain ⟨_, _, _, _, _, _, _, _, _, _, _, _⟩ := hSw); go_simp; (try with_reducible rfl))
      (try simp only [List.getElem_toArray, List.getElem_cons_succ, List.getElem_cons_zero, Act.put, List.setIfInBounds_toArray, List.set_cons_zero, List.set_cons_succ])
      refine wpAnyH_take (i := 22) (v := ?_) rfl (by kernel_rfl) (by kernel_rfl) (by kernel_rfl) (fun _ _ _ h => h) (Or.inl ⟨by rfl, ?hyh59⟩) hHeld ?_
      case hyh59 => ((intro wz hSw); (simp only [Holds_cons, Holds_nil, and_true] at hSw); (obtain ⟨_, _, _, _, _, _, _, _, _, _, _, _⟩ := hSw); go_simp; (try with_reducible rfl))
      (try simp only [List.getElem_toArray, List.getElem_cons_succ, List.getElem_cons_zero, Act.put, List.setIfInBounds_toArray, List.set_cons_zero, List.set_cons_succ])
      refine wpAnyH_take (i := 23) (v := ?_) rfl (by kernel_rfl) (by kernel_rfl) (by kernel_rfl) (fun _ _ _ h => h) (Or.inl ⟨by rfl, ?hyh60⟩) hHeld ?_
      case hyh60 => ((intro wz hSw); (simp only [Holds_cons, Holds_nil, and_true] at hSw); (obtain ⟨_, _, _, _, _, _, _, _, _, _, _, _⟩ := hSw); go_simp; (try with_reducible rfl))
      (try simp only [List.getElem_toArray, List.getElem_cons_succ, List.getElem_cons_zero, Act.put, List.setIfInBounds_toArray, List.set_cons_zero, List.set_cons_succ])
      refine wpAnyH_take (i := 24) (v := ?_) rfl (by kernel_rfl) (by kernel_rfl) (by kernel_rfl) (fun _ _ _ h => h) (Or.inl ⟨by rfl, ?hyh61⟩) hHeld ?_
      case hyh61 => ((intro wz hSw); (simp only [Holds_cons, Holds_nil, and_true] at hSw); (obtain ⟨_, _, _, _, _, _, _, _, _, _, _, _⟩ := hSw); go_simp; (try with_reducible rfl))
      (try simp only [List.getElem_toArray, List.getElem_cons_succ, List.getElem_cons_zero, Act.put, List.setIfInBounds_toArray, List.set_cons_zero, List.set_cons_succ])
      refine wpAnyH_take (i := 25) (v := ?_) rfl (by kernel_rfl) (by kernel_rfl) (by kernel_rfl) (fun _ _ _ h => h) (Or.inl ⟨by rfl, ?hyh62⟩) hHeld ?_
      case hyh62 => ((intro wz hSw); (simp only [Holds_cons, Holds_nil, and_true] at hSw); (obtain ⟨_, _, _, _, _, _, _, _, _, _, _, _⟩ := hSw); go_simp; (try with_reducible rfl))
      (try simp only [List.getElem_toArray, List.getElem_cons_succ, List.getElem_cons_zero, Act.put, List.setIfInBounds_toArray, List.set_cons_zero, List.set_cons_succ])
      refine wpAnyH_take (i := 26) (v := ?_) rfl (by kernel_rfl) (by kernel_rfl) (by kernel_rfl) (fun _ _ _ h => h) (Or.inl ⟨by rfl, ?hyh63⟩) hHeld ?_
      case hyh63 => ((intro wz hSw); (simp only [Holds_cons, Holds_nil, and_true] at hSw); (obtain ⟨_, _, _, _, _, _, _, _, _, _, _, _⟩ := hSw); go_simp; (try with_reducible rfl))
      (try simp only [List.getElem_toArray, List.getElem_cons_succ, List.getElem_cons_zero, Act.put, List.setIfInBounds_toArray, List.set_cons_zero, List.set_cons_succ])
      refine wpAnyH_ready (rs := [27]) (by kernel_rfl) (by simp) ?_
      refine AllReadyH.cons rfl (fun K hK => ?_) AllReadyH.nil
      go_simp
      (with_reducible refine (specSameRoutine_is _ _ _ _ _ _ _ _ _ _ _ (Q8.out.ext hv1.out) (Q9.out.ext hv1.out) true (decide_eq_true ⟨rfl, rfl⟩)).mono ?_)
      rintro e v2 ⟨rfl, hxv2⟩
      (try go_wp2_with fail)
      have hv2 : Hid (Ext ((w7.alloc (.cells #[.int .i64 ha, .slice Aa ka ca] 29)).alloc (.cells #[.int .i64 hb2, .slice Ab kb cb] 29)).drew v2) := hv1.out.trans hxv2
      refine hK.out _ _ (HoldsE hHeld hxv2) (fun hHeldN => ?_)
      clear hK K hHeld
      have hHeld := hHeldN
      clear hHeldN
      (try simp only [List.getElem_toArray, List.getElem_cons_succ, List.getElem_cons_zero, Act.put, List.setIfInBounds_toArray, List.set_cons_zero, List.set_cons_succ])
      refine wpAnyH_take (i := 28) (v := ?_) rfl (by kernel_rfl) (by kernel_rfl) (by kernel_rfl) (fun _ _ _ h => h) (Or.inl ⟨by rfl, ?hyh64⟩) hHeld ?_
      case hyh64 => ((intro wz hSw); (simp only [Holds_cons, Holds_nil, and_true] at hSw); (obtain ⟨_, _, _, _, _, _, _, _, _, _, _, _⟩ := hSw); go_simp; (try with_reducible rfl))
      (try simp only [List.getElem_toArray, List.getElem_cons_succ, List.getElem_cons_zero, Act.put, List.setIfInBounds_toArray, List.set_cons_zero, List.set_cons_succ])
      refine wpAnyH_take (i := 29) (v := ?_) rfl (by kernel_rfl) (by kernel_rfl) (by kernel_rfl) (fun _ _ _ h => h) (Or.inl ⟨by rfl, ?hyh65⟩) hHeld ?_
      case hyh65 => ((intro wz hSw); (simp only [Holds_cons, Holds_nil, and_true] at hSw); (obtain ⟨_, _, _, _, _, _, _, _, _, _, _, _⟩ := hSw); go_simp; (try with_reducible rfl))
      (try simp only [List.getElem_toArray, List.getElem_cons_succ, List.getElem_cons_zero, Act.put, List.setIfInBounds_toArray, List.set_cons_zero, List.set_cons_succ])
      refine wpAnyH_take (i := 30) (v := ?_) rfl (by kernel_rfl) (by kernel_rfl) (by kernel_rfl) (fun _ _ _ h => h) (Or.inl ⟨by rfl, ?hyh66⟩) hHeld ?_
      case hyh66 => ((intro wz hSw); (simp only [Holds_cons, Holds_nil, and_true] at hSw); (obtain ⟨_, _, _, _, _, _, _, _, _, _, _, _⟩ := hSw); go_simp; (try with_reducible rfl))
      (try simp only [List.getElem_toArray, List.getElem_cons_succ, List.getElem_cons_zero, Act.put, List.setIfInBounds_toArray, List.set_cons_zero, List.set_cons_succ])
      refine wpAnyH_take (i := 31) (v := ?_) rfl (by kernel_rfl) (by kernel_rfl) (by kernel_rfl) (fun _ _ _ h => h) (Or.inl ⟨by rfl, ?hyh67⟩) hHeld ?_
      case hyh67 => ((intro wz hSw); (simp only [Holds_cons, Holds_nil, and_true] at hSw); (obtain ⟨_, _, _, _, _, _, _, _, _, _, _, _⟩ := hSw); go_simp; (try with_reducible rfl))
      (try simp only [List.getElem_toArray, List.getElem_cons_succ, List.getElem_cons_zero, Act.put, List.setIfInBounds_toArray, List.set_cons_zero, List.set_cons_succ])
      refine wpAnyH_take (i := 32) (v := ?_) rfl (by kernel_rfl) (by kernel_rfl) (by kernel_rfl) (fun _ _ _ h => h) (Or.inl ⟨by rfl, ?hyh68⟩) hHeld ?_
      case hyh68 => ((intro wz hSw); (simp only [Holds_cons, Holds_nil, and_true] at hSw); (obtain ⟨_, _, _, _, _, _, _, _, _, _, _, _⟩ := hSw); go_simp; (try with_reducible rfl))
      (try simp only [List.getElem_toArray, List.getElem_cons_succ, List.getElem_cons_zero, Act.put, List.setIfInBounds_toArray, List.set_cons_zero, List.set_cons_succ])
      refine wpAnyH_take (i := 33) (v := undef) rfl (by kernel_rfl) (by kernel_rfl) (by kernel_rfl) (fun _ _ _ h => h) (Or.inr ⟨by rfl, rfl⟩) hHeld ?_
      (try simp only [List.getElem_toArray, List.getElem_cons_succ, List.getElem_cons_zero, Act.put, List.setIfInBounds_toArray, List.set_cons_zero, List.set_cons_succ])
      refine wpAnyH_take (i := 34) (v := undef) rfl (by kernel_rfl) (by kernel_rfl) (by kernel_rfl) (fun _ _ _ h => h) (Or.inr ⟨by rfl, rfl⟩) hHeld ?_
      (try simp only [List.getElem_toArray, List.getElem_cons_succ, List.getElem_cons_zero, Act.put, List.setIfInBounds_toArray, List.set_cons_zero, List.set_cons_succ])
      refine wpAnyH_take (i := 35) (v := undef) rfl (by kernel_rfl) (by kernel_rfl) (by kernel_rfl) (fun _ _ _ h => h) (Or.inr ⟨by rfl, rfl⟩) hHeld ?_
      (try simp only [List.getElem_toArray, List.getElem_cons_succ, List.getElem_cons_zero, Act.put, List.setIfInBounds_toArray, List.set_cons_zero, List.set_cons_succ])
      refine wpAnyH_take (i := 36) (v := undef) rfl (by kernel_rfl) (by kernel_rfl) (by kernel_rfl) (fun _ _ _ h => h) (Or.inr ⟨by rfl, rfl⟩) hHeld ?_
      (try simp only [List.getElem_toArray, List.getElem_cons_succ, List.getElem_cons_zero, Act.put, List.setIfInBounds_toArray, List.set_cons_zero, List.set_cons_succ])
      refine wpAnyH_take (i := 37) (v := ?_) rfl (by kernel_rfl) (by kernel_rfl) (by kernel_rfl) (fun _ _ _ h => h) (Or.inl ⟨by rfl, ?hyh69⟩) hHeld ?_
      case hyh69 => ((intro wz hSw); (simp only [Holds_cons, Holds_nil, and_true] at hSw); (obtain ⟨_, _, _, _, _, _, _, _, _, _, _, _⟩ := hSw); go_simp; (try with_reducible rfl))
      (try simp only [List.getElem_toArray, List.getElem_cons_succ, List.getElem_cons_zero, Act.put, List.setIfInBounds_toArray, List.set_cons_zero, List.set_cons_succ])
      refine wpAnyH_take (i := 38) (v := ?_) rfl (by kernel_rfl) (by kernel_rfl) (by kernel_rfl) (fun _ _ _ h => h) (Or.inl ⟨by rfl, ?hyh70⟩) hHeld ?_
      case hyh70 => ((intro wz hSw); (simp only [Holds_cons, Holds_nil, and_true] at hSw); (obtain ⟨_, _, _, _, _, _, _, _, _, _, _, _⟩ := hSw); go_simp; (try with_reducible rfl))
      (try simp only [List.getElem_toArray, List.getElem_cons_succ, List.getElem_cons_zero, Act.put, List.setIfInBounds_toArray, List.set_cons_zero, List.set_cons_succ])
      refine wpAnyH_take (i := 39) (v := ?_) rfl (by kernel_rfl) (by kernel_rfl) (by kernel_rfl) (fun _ _ _ h => h) (Or.inl ⟨by rfl, ?hyh71⟩) hHeld ?_
      case hyh71 => ((intro wz hSw); (simp only [Holds_cons, Holds_nil, and_true] at hSw); (obtain ⟨_, _, _, _, _, _, _, _, _, _, _, _⟩ := hSw); go_simp; (try with_reducible rfl))
      (try simp only [List.getElem_toArray, List.getElem_cons_succ, List.getElem_cons_zero, Act.put, List.setIfInBounds_toArray, List.set_cons_zero, List.set_cons_succ])
      refine wpAnyH_take (i := 40) (v := ?_) rfl (by kernel_rfl) (by kernel_rfl) (by kernel_rfl) (fun _ _ _ h => h) (Or.inl ⟨by rfl, ?hyh72⟩) hHeld ?_
      case hyh72 => ((intro wz hSw); (simp only [Holds_cons, Holds_nil, and_true] at hSw); (obtain ⟨_, _, _, _, _, _, _, _, _, _, _, _⟩ := hSw); go_simp; (try with_reducible rfl))
      (try simp only [List.getElem_toArray, List.getElem_cons_succ, List.getElem_cons_zero, Act.put, List.setIfInBounds_toArray, List.set_cons_zero, List.set_cons_succ])
      refine wpAnyH_take (i := 41) (v := ?_) rfl (by kernel_rfl) (by kernel_rfl) (by kernel_rfl) (fun _ _ _ h => h) (Or.inl ⟨by rfl, ?hyh73⟩) hHeld ?_
      case hyh73 => ((intro wz hSw); (simp only [Holds_cons, Holds_nil, and_true] at hSw); (obtain ⟨_, _, _, _, _, _, _, _, _, _, _, _⟩ := hSw); go_simp; (try with_reducible rfl))
      (try simp only [List.getElem_toArray, List.getElem_cons_succ, List.getElem_cons_zero, Act.put, List.setIfInBounds_toArray, List.set_cons_zero, List.set_cons_succ])
      refine wpAnyH_take (i := 43) (v := ?_) rfl (by kernel_rfl) (by kernel_rfl) (by kernel_rfl) (fun _ _ _ h => h) (Or.inl ⟨by rfl, ?hyh74⟩) hHeld ?_
      case hyh74 => ((intro wz hSw); (simp only [Holds_cons, Holds_nil, and_true] at hSw); (obtain ⟨_, _, _, _, _, _, _, _, _, _, _, _⟩ := hSw); go_simp; (try with_reducible rfl))
      (try simp only [List.getElem_toArray, List.getElem_cons_succ, List.getElem_cons_zero, Act.put, List.setIfInBounds_toArray, List.set_cons_zero, List.set_cons_succ])
      refine wpAnyH_take (i := 44) (v := ?_) rfl (by kernel_rfl) (by kernel_rfl) (by kernel_rfl) (fun _ _ _ h => h) (Or.inl ⟨by rfl, ?hyh75⟩) hHeld ?_
      case hyh75 => ((intro wz hSw); (simp only [Holds_cons, Holds_nil, and_true] at hSw); (obtain ⟨_, _, _, _, _, _, _, _, _, _, _, _⟩ := hSw); go_simp; (try with_reducible rfl))
      (try simp only [List.getElem_toArray, List.getElem_cons_succ, List.getElem_cons_zero, Act.put, List.setIfInBounds_toArray, List.set_cons_zero, List.set_cons_succ])
      refine wpAnyH_ready (rs := [42]) (by kernel_rfl) (by simp) ?_
      refine AllReadyH.cons rfl (fun K hK => ?_) AllReadyH.nil
      go_simp
      (with_reducible refine (implSameRoutine_is _ _ _ _ _ _ _ _ _ _ _ (Qa.out.ext hv2.out) (Qb.out.ext hv2.out) v HV.out).mono ?_)
      rintro e v3 ⟨rfl, hxv3⟩
      (try go_wp2_with fail)
      have hv3 : Hid (Ext ((w7.alloc (.cells #[.int .i64 ha, .slice Aa ka ca] 29)).alloc (.cells #[.int .i64 hb2, .slice Ab kb cb] 29)).drew v3) := hv2.out.trans hxv3
      refine hK.out _ _ (HoldsE hHeld hxv3) (fun hHeldN => ?_)
      clear hK K hHeld
      have hHeld := hHeldN
      clear hHeldN
      (try simp only [List.getElem_toArray, List.getElem_cons_succ, List.getElem_cons_zero, Act.put, List.setIfInBounds_toArray, List.set_cons_zero, List.set_cons_succ])
      refine wpAnyH_ready (rs := [45]) (by kernel_rfl) (by simp) ?_
      refine AllReadyH.cons rfl (fun K hK => ?_) AllReadyH.nil
      go_simp
      (with_reducible refine (specSameRoutine_is _ _ _ _ _ _ _ _ _ _ _ (Qa.out.ext hv3.out) (Qb.out.ext hv3.out) v HV.out).mono ?_)
      rintro e v4 ⟨rfl, hxv4⟩
      (try go_wp2_with fail)
      have hv4 : Hid (Ext ((w7.alloc (.cells #[.int .i64 ha, .slice Aa ka ca] 29)).alloc (.cells #[.int .i64 hb2, .slice Ab kb cb] 29)).drew v4) := hv3.out.trans hxv4
      refine hK.out _ _ (HoldsE hHeld hxv4) (fun hHeldN => ?_)
      clear hK K hHeld
      have hHeld := hHeldN
      clear hHeldN
      (try simp only [List.getElem_toArray, List.getElem_cons_succ, List.getElem_cons_zero, Act.put, List.setIfInBounds_toArray, List.set_cons_zero, List.set_cons_succ])
      refine wpAnyH_take (i := 46) (v := ?_) rfl (by kernel_rfl) (by kernel_rfl) (by kernel_rfl) (fun _ _ _ h => h) (Or.inl ⟨by rfl, ?hyh76⟩) hHeld ?_
      case hyh76 => ((intro wz hSw); (simp only [Holds_cons, Holds_nil, and_true] at hSw); (obtain ⟨_, _, _, _, _, _, _, _, _, _, _, _⟩ := hSw); go_simp; (try with_reducible rfl))
      (try simp only [List.getElem_toArray, List.getElem_cons_succ, List.getElem_cons_zero, Act.put, List.setIfInBounds_toArray, List.set_cons_zero, List.set_cons_succ])
      refine wpAnyH_take (i := 47) (v := ?_) rfl (by kernel_rfl) (by kernel_rfl) (by kernel_rfl) (fun _ _ _ h => h) (Or.inl ⟨by rfl, ?hyh77⟩) hHeld ?_
      case hyh77 => ((intro wz hSw); (simp only [Holds_cons, Holds_nil, and_true] at hSw); (obtain ⟨_, _, _, _, _, _, _, _, _, _, _, _⟩ := hSw); go_simp; (try with_reducible rfl))
      (try simp only [List.getElem_toArray, List.getElem_cons_succ, List.getElem_cons_zero, Act.put, List.setIfInBounds_toArray, List.set_cons_zero, List.set_cons_succ])
      refine wpAnyH_take (i := 48) (v := ?_) rfl (by kernel_rfl) (by kernel_rfl) (by kernel_rfl) (fun _ _ _ h => h) (Or.inl ⟨by rfl, ?hyh78⟩) hHeld ?_
      case hyh78 => ((intro wz hSw); (simp only [Holds_cons, Holds_nil, and_true] at hSw); (obtain ⟨_, _, _, _, _, _, _, _, _, _, _, _⟩ := hSw); go_simp; (try with_reducible rfl))
      (try simp only [List.getElem_toArray, List.getElem_cons_succ, List.getElem_cons_zero, Act.put, List.setIfInBounds_toArray, List.set_cons_zero, List.set_cons_succ])
      refine wpAnyH_done (by kernel_rfl) ?_ _
      go_wp2
      go_ret
      exact ⟨rfl, Ext.below (hE0.out.trans hv4.out)⟩
  · skip
    have HRQ := Lib.hid (rdo_rtext HQ.out)
    rcases HOK.out with ⟨e0, e1, e2, hs2s⟩ | ⟨rfl, rfl⟩
    · skip
      subst ok hb pb
      have hsne := emptyN s (by omega)
      refine wp_region_held_drew (S := Holds [(⟨w1.heap.size, 0, none⟩, .int .i64 hh), (⟨w1.heap.size, 1, none⟩, .slice A1 k c1), (⟨w3.heap.size, 0, none⟩, .int .i64 hh), (⟨w3.heap.size, 1, none⟩, .slice A5 ps.length c5), (⟨w5.heap.size, 0, none⟩, .int .i64 h2), (⟨w5.heap.size, 1, none⟩, .slice A8 qs.length c8), (⟨w6.heap.size, 0, none⟩, .int .i64 h2), (⟨w6.heap.size, 1, none⟩, .slice A9 qs.length c9), (⟨w7.heap.size, 0, none⟩, .int .i64 ha), (⟨w7.heap.size, 1, none⟩, .slice Aa ka ca), (⟨w7.heap.size + 1, 0, none⟩, .int .i64 hb2), (⟨w7.heap.size + 1, 1, none⟩, .slice Ab kb cb)]) (by kernel_rfl) (by (simp only [Holds_cons, Holds_nil, and_true]); exact ⟨hc00, hc01, hc10, hc11, hc20, hc21, hc30, hc31, hca0, hca1, hcb0, hcb1⟩) (fun hHeld => ?_)
      refine wpAnyH_take (i := 0) (v := ?_) rfl (by kernel_rfl) (by kernel_rfl) (by kernel_rfl) (fun _ _ _ h => h) (Or.inl ⟨by rfl, ?hyh79⟩) hHeld ?_
      case hyh79 => ((intro wz hSw); (simp only [Holds_cons, Holds_nil, and_true] at hSw); (obtain ⟨_, _, _, _, _, _, _, _, _, _, _, _⟩ := hSw); go_simp; (try with_reducible rfl))
      (try simp only [List.getElem_toArray, List.getElem_cons_succ, List.getElem_cons_zero, Act.put, List.setIfInBounds_toArray, List.set_cons_zero, List.set_cons_succ])
      refine wpAnyH_take (i := 1) (v := ?_) rfl (by kernel_rfl) (by kernel_rfl) (by kernel_rfl) (fun _ _ _ h => h) (Or.inl ⟨by rfl, ?hyh80⟩) hHeld ?_
      case hyh80 => ((intro wz hSw); (simp only [Holds_cons, Holds_nil, and_true] at hSw); (obtain ⟨_, _, _, _, _, _, _, _, _, _, _, _⟩ := hSw); go_simp; (try with_reducible rfl))
      (try simp only [List.getElem_toArray, List.getElem_cons_succ, List.getElem_cons_zero, Act.put, List.setIfInBounds_toArray, List.set_cons_zero, List.set_cons_succ])
      refine wpAnyH_ready (rs := [2]) (by kernel_rfl) (by simp) ?_
      refine AllReadyH.cons rfl (fun K hK => ?_) AllReadyH.nil
      go_simp
      (with_reducible refine (specRoutineText_is A1 k c1 ps hh _ (Q1.out.ext (Ext.refl _)) s HRT.out).mono ?_)
      rintro e v1 ⟨rfl, hxv1⟩
      (try go_wp2_with fail)
      have hv1 : Hid (Ext ((w7.alloc (.cells #[.int .i64 ha, .slice Aa ka ca] 29)).alloc (.cells #[.int .i64 hb2, .slice Ab kb cb] 29)).drew v1) := hxv1
      refine hK.out _ _ (HoldsE hHeld hxv1) (fun hHeldN => ?_)
      clear hK K hHeld
      have hHeld := hHeldN
      clear hHeldN
      (try simp only [List.getElem_toArray, List.getElem_cons_succ, List.getElem_cons_zero, Act.put, List.setIfInBounds_toArray, List.set_cons_zero, List.set_cons_succ])
      refine wpAnyH_take (i := 3) (v := ?_) rfl (by kernel_rfl) (by kernel_rfl) (by kernel_rfl) (fun _ _ _ h => h) (Or.inl ⟨by rfl, ?hyh81⟩) hHeld ?_
      case hyh81 => ((intro wz hSw); (simp only [Holds_cons, Holds_nil, and_true] at hSw); (obtain ⟨_, _, _, _, _, _, _, _, _, _, _, _⟩ := hSw); go_simp; (try with_reducible rfl))
      (try simp only [List.getElem_toArray, List.getElem_cons_succ, List.getElem_cons_zero, Act.put, List.setIfInBounds_toArray, List.set_cons_zero, List.set_cons_succ])
      refine wpAnyH_take (i := 4) (v := ?_) rfl (by kernel_rfl) (by kernel_rfl) (by kernel_rfl) (fun _ _ _ h => h) (Or.inl ⟨by rfl, ?hyh82⟩) hHeld ?_
      case hyh82 => ((intro wz hSw); (simp only [Holds_cons, Holds_nil, and_true] at hSw); (obtain ⟨_, _, _, _, _, _, _, _, _, _, _, _⟩ := hSw); go_simp; (try with_reducible rfl))
      (try simp only [List.getElem_toArray, List.getElem_cons_succ, List.getElem_cons_zero, Act.put, List.setIfInBounds_toArray, List.set_cons_zero, List.set_cons_succ])
      refine wpAnyH_take (i := 5) (v := ?_) rfl (by kernel_rfl) (by kernel_rfl) (by kernel_rfl) (fun _ _ _ h => h) (Or.inl ⟨by rfl, ?hyh83⟩) hHeld ?_
      case hyh83 => ((intro wz hSw); (simp only [Holds_cons, Holds_nil, and_true] at hSw); (obtain ⟨_, _, _, _, _, _, _, _, _, _, _, _⟩ := hSw); go_simp; (try with_reducible rfl))
      (try simp only [List.getElem_toArray, List.getElem_cons_succ, List.getElem_cons_zero, Act.put, List.setIfInBounds_toArray, List.set_cons_zero, List.set_cons_succ])
      refine wpAnyH_take (i := 6) (v := ?_) rfl (by kernel_rfl) (by kernel_rfl) (by kernel_rfl) (fun _ _ _ h => h) (Or.inl ⟨by rfl, ?hyh84⟩) hHeld ?_
      case hyh84 => ((intro wz hSw); (simp only [Holds_cons, Holds_nil, and_true] at hSw); (obtain ⟨_, _, _, _, _, _, _, _, _, _, _, _⟩ := hSw); go_simp; (try with_reducible rfl))
      (try simp only [List.getElem_toArray, List.getElem_cons_succ, List.getElem_cons_zero, Act.put, List.setIfInBounds_toArray, List.set_cons_zero, List.set_cons_succ])
      refine wpAnyH_take (i := 7) (v := ?_) rfl (by kernel_rfl) (by kernel_rfl) (by kernel_rfl) (fun _ _ _ h => h) (Or.inl ⟨by rfl, ?hyh85⟩) hHeld ?_
      case hyh85 => ((intro wz hSw); (simp only [Holds_cons, Holds_nil, and_true] at hSw); (obtain ⟨_, _, _, _, _, _, _, _, _, _, _, _⟩ := hSw); go_simp; (try with_reducible rfl))
      (try simp only [List.getElem_toArray, List.getElem_cons_succ, List.getElem_cons_zero, Act.put, List.setIfInBounds_toArray, List.set_cons_zero, List.set_cons_succ])
      refine wpAnyH_take (i := 8) (v := ?_) rfl (by kernel_rfl) (by kernel_rfl) (by kernel_rfl) (fun _ _ _ h => h) (Or.inl ⟨by rfl, ?hyh86⟩) hHeld ?_
      case hyh86 => ((intro wz hSw); (simp only [Holds_cons, Holds_nil, and_true] at hSw); (obtain ⟨_, _, _, _, _, _, _, _, _, _, _, _⟩ := hSw); go_simp; (try with_reducible rfl))
      (try simp only [List.getElem_toArray, List.getElem_cons_succ, List.getElem_cons_zero, Act.put, List.setIfInBounds_toArray, List.set_cons_zero, List.set_cons_succ])
      refine wpAnyH_take (i := 9) (v := ?_) rfl (by kernel_rfl) (by kernel_rfl) (by kernel_rfl) (fun _ _ _ h => h) (Or.inl ⟨by rfl, ?hyh87⟩) hHeld ?_
      case hyh87 => ((intro wz hSw); (simp only [Holds_cons, Holds_nil, and_true] at hSw); (obtain ⟨_, _, _, _, _, _, _, _, _, _, _, _⟩ := hSw); go_simp; (try with_reducible rfl))
      (try simp only [List.getElem_toArray, List.getElem_cons_succ, List.getElem_cons_zero, Act.put, List.setIfInBounds_toArray, List.set_cons_zero, List.set_cons_succ])
      refine wpAnyH_take (i := 10) (v := ?_) rfl (by kernel_rfl) (by kernel_rfl) (by kernel_rfl) (fun _ _ _ h => h) (Or.inl ⟨by rfl, ?hyh88⟩) hHeld ?_
      case hyh88 => ((intro wz hSw); (simp only [Holds_cons, Holds_nil, and_true] at hSw); (obtain ⟨_, _, _, _, _, _, _, _, _, _, _, _⟩ := hSw); go_simp; (try with_reducible rfl))
      (try simp only [List.getElem_toArray, List.getElem_cons_succ, List.getElem_cons_zero, Act.put, List.setIfInBounds_toArray, List.set_cons_zero, List.set_cons_succ])
      refine wpAnyH_take (i := 11) (v := ?_) rfl (by kernel_rfl) (by kernel_rfl) (by kernel_rfl) (fun _ _ _ h => h) (Or.inl ⟨by rfl, ?hyh89⟩) hHeld ?_
      case hyh89 => ((intro wz hSw); (simp only [Holds_cons, Holds_nil, and_true] at hSw); (obtain ⟨_, _, _, _, _, _, _, _, _, _, _, _⟩ := hSw); go_simp; (try with_reducible rfl))
      (try simp only [List.getElem_toArray, List.getElem_cons_succ, List.getElem_cons_zero, Act.put, List.setIfInBounds_toArray, List.set_cons_zero, List.set_cons_succ])
      refine wpAnyH_take (i := 12) (v := ?_) rfl (by kernel_rfl) (by kernel_rfl) (by kernel_rfl) (fun _ _ _ h => h) (Or.inl ⟨by rfl, ?hyh90⟩) hHeld ?_
      case hyh90 => ((intro wz hSw); (simp only [Holds_cons, Holds_nil, and_true] at hSw); (obtain ⟨_, _, _, _, _, _, _, _, _, _, _, _⟩ := hSw); go_simp; (try with_reducible rfl))
      (try simp only [List.getElem_toArray, List.getElem_cons_succ, List.getElem_cons_zero, Act.put, List.setIfInBounds_toArray, List.set_cons_zero, List.set_cons_succ])
      refine wpAnyH_take (i := 13) (v := ?_) rfl (by kernel_rfl) (by kernel_rfl) (by kernel_rfl) (fun _ _ _ h => h) (Or.inl ⟨by rfl, ?hyh91⟩) hHeld ?_
      case hyh91 => ((intro wz hSw); (simp only [Holds_cons, Holds_nil, and_true] at hSw); (obtain ⟨_, _, _, _, _, _, _, _, _, _, _, _⟩ := hSw); go_simp; (try with_reducible rfl))
      (try simp only [List.getElem_toArray, List.getElem_cons_succ, List.getElem_cons_zero, Act.put, List.setIfInBounds_toArray, List.set_cons_zero, List.set_cons_succ])
      refine wpAnyH_take (i := 14) (v := ?_) rfl (by kernel_rfl) (by kernel_rfl) (by kernel_rfl) (fun _ _ _ h => h) (Or.inl ⟨by rfl, ?hyh92⟩) hHeld ?_
      case hyh92 => ((intro wz hSw); (simp only [Holds_cons, Holds_nil, and_true] at hSw); (obtain ⟨_, _, _, _, _, _, _, _, _, _, _, _⟩ := hSw); go_simp; (try with_reducible rfl))
      (try simp only [List.getElem_toArray, List.getElem_cons_succ, List.getElem_cons_zero, Act.put, List.setIfInBounds_toArray, List.set_cons_zero, List.set_cons_succ])
      refine wpAnyH_take (i := 15) (v := ?_) rfl (by kernel_rfl) (by kernel_rfl) (by kernel_rfl) (fun _ _ _ h => h) (Or.inl ⟨by rfl, ?hyh93⟩) hHeld ?_
      case hyh93 => ((intro wz hSw); (simp only [Holds_cons, Holds_nil, and_true] at hSw); (obtain ⟨_, _, _, _, _, _, _, _, _, _, _, _⟩ := hSw); go_simp; (try with_reducible rfl))
      (try simp only [List.getElem_toArray, List.getElem_cons_succ, List.getElem_cons_zero, Act.put, List.setIfInBounds_toArray, List.set_cons_zero, List.set_cons_succ])
      refine wpAnyH_ready (rs := [16]) (by kernel_rfl) (by simp) ?_
      refine AllReadyH.cons rfl (fun K hK => ?_) AllReadyH.nil
      go_simp
      (with_reducible refine (specSameRoutine_is _ _ _ _ _ _ _ _ _ _ _ (Q5.out.ext hv1.out) (Q1.out.ext hv1.out) true (decide_eq_true ⟨rfl, rfl⟩)).mono ?_)
      rintro e v2 ⟨rfl, hxv2⟩
      (try go_wp2_with fail)
      have hv2 : Hid (Ext ((w7.alloc (.cells #[.int .i64 ha, .slice Aa ka ca] 29)).alloc (.cells #[.int .i64 hb2, .slice Ab kb cb] 29)).drew v2) := hv1.out.trans hxv2
      refine hK.out _ _ (HoldsE hHeld hxv2) (fun hHeldN => ?_)
      clear hK K hHeld
      have hHeld := hHeldN
      clear hHeldN
      (try simp only [List.getElem_toArray, List.getElem_cons_succ, List.getElem_cons_zero, Act.put, List.setIfInBounds_toArray, List.set_cons_zero, List.set_cons_succ])
      refine wpAnyH_take (i := 17) (v := ?_) rfl (by kernel_rfl) (by kernel_rfl) (by kernel_rfl) (fun _ _ _ h => h) (Or.inl ⟨by rfl, ?hyh94⟩) hHeld ?_
      case hyh94 => ((intro wz hSw); (simp only [Holds_cons, Holds_nil, and_true] at hSw); (obtain ⟨_, _, _, _, _, _, _, _, _, _, _, _⟩ := hSw); go_simp; (try with_reducible rfl))
      (try simp only [List.getElem_toArray, List.getElem_cons_succ, List.getElem_cons_zero, Act.put, List.setIfInBounds_toArray, List.set_cons_zero, List.set_cons_succ])
      refine wpAnyH_take (i := 18) (v := ?_) rfl (by kernel_rfl) (by kernel_rfl) (by kernel_rfl) (fun _ _ _ h => h) (Or.inl ⟨by rfl, ?hyh95⟩) hHeld ?_
      case hyh95 => ((intro wz hSw); (simp only [Holds_cons, Holds_nil, and_true] at hSw); (obtain ⟨_, _, _, _, _, _, _, _, _, _, _, _⟩ := hSw); go_simp; (try with_reducible rfl))
      (try simp only [List.getElem_toArray, List.getElem_cons_succ, List.getElem_cons_zero, Act.put, List.setIfInBounds_toArray, List.set_cons_zero, List.set_cons_succ])
      refine wpAnyH_take (i := 19) (v := ?_) rfl (by kernel_rfl) (by kernel_rfl) (by kernel_rfl) (fun _ _ _ h => h) (Or.inl ⟨by rfl, ?hyh96⟩) hHeld ?_
      case hyh96 => ((intro wz hSw); (simp only [Holds_cons, Holds_nil, and_true] at hSw); (obtain ⟨_, _, _, _, _, _, _, _, _, _, _, _⟩ := hSw); go_simp; (try with_reducible rfl))
      (try simp only [List.getElem_toArray, List.getElem_cons_succ, List.getElem_cons_zero, Act.put, List.setIfInBounds_toArray, List.set_cons_zero, List.set_cons_succ])
      refine wpAnyH_take (i := 20) (v := ?_) rfl (by kernel_rfl) (by kernel_rfl) (by kernel_rfl) (fun _ _ _ h => h) (Or.inl ⟨by rfl, ?hyh97⟩) hHeld ?_
      case hyh97 => ((intro wz hSw); (simp only [Holds_cons, Holds_nil, and_true] at hSw); (obtain ⟨_, _, _, _, _, _, _, _, _, _, _, _⟩ := hSw); go_simp; (try with_reducible rfl))
      (try simp only [List.getElem_toArray, List.getElem_cons_succ, List.getElem_cons_zero, Act.put, List.setIfInBounds_toArray, List.set_cons_zero, List.set_cons_succ])
      refine wpAnyH_take (i := 21) (v := ?_) rfl (by kernel_rfl) (by kernel_rfl) (by kernel_rfl) (fun _ _ _ h => h) (Or.inl ⟨by rfl, ?hyh98⟩) hHeld ?_
      case hyh98 => ((intro wz hSw); (simp only [Holds_cons, Holds_nil, and_true] at hSw); (obtain ⟨_, _, _, _, _, _, _, _, _, _, _, _⟩ := hSw); go_simp; (try with_reducible rfl))
      (try simp only [List.getElem_toArray, List.getElem_cons_succ, List.getElem_cons_zero, Act.put, List.setIfInBounds_toArray, List.set_cons_zero, List.set_cons_succ])
      refine wpAnyH_take (i := 22) (v := ?_) rfl (by kernel_rfl) (by kernel_rfl) (by kernel_rfl) (fun _ _ _ h => h) (Or.inl ⟨by rfl, ?hyh99⟩) hHeld ?_
      case hyh99 => ((intro wz hSw); (simp only [Holds_cons, Holds_nil, and_true] at hSw); (obtain ⟨_, _, _, _, _, _, _, _, _, _, _, _⟩ := hSw); go_simp; (try with_reducible rfl))
      (try simp only [List.getElem_toArray, List.getElem_cons_succ, List.getElem_cons_zero, Act.put, List.setIfInBounds_toArray, List.set_cons_zero, List.set_cons_succ])
      refine wpAnyH_take (i := 23) (v := ?_) rfl (by kernel_rfl) (by kernel_rfl) (by kernel_rfl) (fun _ _ _ h => h) (Or.inl ⟨by rfl, ?hyh100⟩) hHeld ?_
      case hyh100 => ((intro wz hSw); (simp only [Holds_cons, Holds_nil, and_true] at hSw); (obtain ⟨_, _, _, _, _, _, _, _, _, _, _, _⟩ := hSw); go_simp; (try with_reducible rfl))
      (try simp only [List.getElem_toArray, List.getElem_cons_succ, List.getElem_cons_zero, Act.put, List.setIfInBounds_toArray, List.set_cons_zero, List.set_cons_succ])
      refine wpAnyH_take (i := 24) (v := ?_) rfl (by kernel_rfl) (by kernel_rfl) (by kernel_rfl) (fun _ _ _ h => h) (Or.inl ⟨by rfl, ?hyh101⟩) hHeld ?_
      case hyh101 => ((intro wz hSw); (simp only [Holds_cons, Holds_nil, and_true] at hSw); (obtain ⟨_, _, _, _, _, _, _, _, _, _, _, _⟩ := hSw); go_simp; (try with_reducible rfl))
      (try simp only [List.getElem_toArray, List.getElem_cons_succ, List.getElem_cons_zero, Act.put, List.setIfInBounds_toArray, List.set_cons_zero, List.set_cons_succ])
      refine wpAnyH_take (i := 25) (v := ?_) rfl (by kernel_rfl) (by kernel_rfl) (by kernel_rfl) (fun _ _ _ h => h) (Or.inl ⟨by rfl, ?hyh102⟩) hHeld ?_
      case hyh102 => ((intro wz hSw); (simp only [Holds_cons, Holds_nil, and_true] at hSw); (obtain ⟨_, _, _, _, _, _, _, _, _, _, _, _⟩ := hSw); go_simp; (try with_reducible rfl))
      (try simp only [List.getElem_toArray, List.getElem_cons_succ, List.getElem_cons_zero, Act.put, List.setIfInBounds_toArray, List.set_cons_zero, List.set_cons_succ])
      refine wpAnyH_take (i := 26) (v := ?_) rfl (by kernel_rfl) (by kernel_rfl) (by kernel_rfl) (fun _ _ _ h => h) (Or.inl ⟨by rfl, ?hyh103⟩) hHeld ?_
      case hyh103 => ((intro wz hSw); (simp only [Holds_cons, Holds_nil, and_true] at hSw); (obtain ⟨_, _, _, _, _, _, _, _, _, _, _, _⟩ := hSw); go_simp; (try with_reducible rfl))
      (try simp only [List.getElem_toArray, List.getElem_cons_succ, List.getElem_cons_zero, Act.put, List.setIfInBounds_toArray, List.set_cons_zero, List.set_cons_succ])
      refine wpAnyH_ready (rs := [27]) (by kernel_rfl) (by simp) ?_
      refine AllReadyH.cons rfl (fun K hK => ?_) AllReadyH.nil
      go_simp
      (with_reducible refine (specSameRoutine_is _ _ _ _ _ _ _ _ _ _ _ (Q8.out.ext hv2.out) (Q9.out.ext hv2.out) true (decide_eq_true ⟨rfl, rfl⟩)).mono ?_)
      rintro e v3 ⟨rfl, hxv3⟩
      (try go_wp2_with fail)
      have hv3 : Hid (Ext ((w7.alloc (.cells #[.int .i64 ha, .slice Aa ka ca] 29)).alloc (.cells #[.int .i64 hb2, .slice Ab kb cb] 29)).drew v3) := hv2.out.trans hxv3
      refine hK.out _ _ (HoldsE hHeld hxv3) (fun hHeldN => ?_)
      clear hK K hHeld
      have hHeld := hHeldN
      clear hHeldN
      (try simp only [List.getElem_toArray, List.getElem_cons_succ, List.getElem_cons_zero, Act.put, List.setIfInBounds_toArray, List.set_cons_zero, List.set_cons_succ])
      refine wpAnyH_take (i := 28) (v := ?_) rfl (by kernel_rfl) (by kernel_rfl) (by kernel_rfl) (fun _ _ _ h => h) (Or.inl ⟨by rfl, ?hyh104⟩) hHeld ?_
      case hyh104 => ((intro wz hSw); (simp only [Holds_cons, Holds_nil, and_true] at hSw); (obtain ⟨_, _, _, _, _, _, _, _, _, _, _, _⟩ := hSw); go_simp; (try with_reducible rfl))
      (try simp only [List.getElem_toArray, List.getElem_cons_succ, List.getElem_cons_zero, Act.put, List.setIfInBounds_toArray, List.set_cons_zero, List.set_cons_succ])
      refine wpAnyH_take (i := 29) (v := ?_) rfl (by kernel_rfl) (by kernel_rfl) (by kernel_rfl) (fun _ _ _ h => h) (Or.inl ⟨by rfl, ?hyh105⟩) hHeld ?_
      case hyh105 => ((intro wz hSw); (simp only [Holds_cons, Holds_nil, and_true] at hSw); (obtain ⟨_, _, _, _, _, _, _, _, _, _, _, _⟩ := hSw); go_simp; (try with_reducible rfl))
      (try simp only [List.getElem_toArray, List.getElem_cons_succ, List.getElem_cons_zero, Act.put, List.setIfInBounds_toArray, List.set_cons_zero, List.set_cons_succ])
      refine wpAnyH_take (i := 30) (v := ?_) rfl (by kernel_rfl) (by kernel_rfl) (by kernel_rfl) (fun _ _ _ h => h) (Or.inl ⟨by rfl, ?hyh106⟩) hHeld ?_
      case hyh106 => ((intro wz hSw); (simp only [Holds_cons, Holds_nil, and_true] at hSw); (obtain ⟨_, _, _, _, _, _, _, _, _, _, _, _⟩ := hSw); go_simp; (try with_reducible rfl))
      (try simp only [List.getElem_toArray, List.getElem_cons_succ, List.getElem_cons_zero, Act.put, List.setIfInBounds_toArray, List.set_cons_zero, List.set_cons_succ])
      refine wpAnyH_take (i := 31) (v := ?_) rfl (by kernel_rfl) (by kernel_rfl) (by kernel_rfl) (fun _ _ _ h => h) (Or.inl ⟨by rfl, ?hyh107⟩) hHeld ?_
      case hyh107 => ((intro wz hSw); (simp only [Holds_cons, Holds_nil, and_true] at hSw); (obtain ⟨_, _, _, _, _, _, _, _, _, _, _, _⟩ := hSw); go_simp; (try with_reducible rfl))
      (try simp only [List.getElem_toArray, List.getElem_cons_succ, List.getElem_cons_zero, Act.put, List.setIfInBounds_toArray, List.set_cons_zero, List.set_cons_succ])
      refine wpAnyH_take (i := 32) (v := ?_) rfl (by kernel_rfl) (by kernel_rfl) (by kernel_rfl) (fun _ _ _ h => h) (Or.inl ⟨by rfl, ?hyh108⟩) hHeld ?_
      case hyh108 => ((intro wz hSw); (simp only [Holds_cons, Holds_nil, and_true] at hSw); (obtain ⟨_, _, _, _, _, _, _, _, _, _, _, _⟩ := hSw); go_simp; (try with_reducible rfl))
      (try simp only [List.getElem_toArray, List.getElem_cons_succ, List.getElem_cons_zero, Act.put, List.setIfInBounds_toArray, List.set_cons_zero, List.set_cons_succ])
      refine wpAnyH_take (i := 33) (v := ?_) rfl (by kernel_rfl) (by kernel_rfl) (by kernel_rfl) (fun _ _ _ h => h) (Or.inl ⟨by rfl, ?hyh109⟩) hHeld ?_
      case hyh109 => ((intro wz hSw); (simp only [Holds_cons, Holds_nil, and_true] at hSw); (obtain ⟨_, _, _, _, _, _, _, _, _, _, _, _⟩ := hSw); go_simp; (try with_reducible rfl))
      (try simp only [List.getElem_toArray, List.getElem_cons_succ, List.getElem_cons_zero, Act.put, List.setIfInBounds_toArray, List.set_cons_zero, List.set_cons_succ])
      refine wpAnyH_take (i := 35) (v := ?_) rfl (by kernel_rfl) (by kernel_rfl) (by kernel_rfl) (fun _ _ _ h => h) (Or.inl ⟨by rfl, ?hyh110⟩) hHeld ?_
      case hyh110 => ((intro wz hSw); (simp only [Holds_cons, Holds_nil, and_true] at hSw); (obtain ⟨_, _, _, _, _, _, _, _, _, _, _, _⟩ := hSw); go_simp; (try with_reducible rfl))
      (try simp only [List.getElem_toArray, List.getElem_cons_succ, List.getElem_cons_zero, Act.put, List.setIfInBounds_toArray, List.set_cons_zero, List.set_cons_succ])
      refine wpAnyH_ready (rs := [34]) (by kernel_rfl) (by simp) ?_
      refine AllReadyH.cons rfl (fun K hK => ?_) AllReadyH.nil
      go_simp
      (with_reducible refine (implRoutineText_is A8 _ c8 qs h2 _ (Q8.out.ext hv3.out) (HT0.out.ext hv3.out) s2 HRQ.out).mono ?_)
      rintro e v4 ⟨rfl, hxv4⟩
      (try go_wp2_with fail)
      have hv4 : Hid (Ext ((w7.alloc (.cells #[.int .i64 ha, .slice Aa ka ca] 29)).alloc (.cells #[.int .i64 hb2, .slice Ab kb cb] 29)).drew v4) := hv3.out.trans hxv4
      refine hK.out _ _ (HoldsE hHeld hxv4) (fun hHeldN => ?_)
      clear hK K hHeld
      have hHeld := hHeldN
      clear hHeldN
      (try simp only [List.getElem_toArray, List.getElem_cons_succ, List.getElem_cons_zero, Act.put, List.setIfInBounds_toArray, List.set_cons_zero, List.set_cons_succ])
      refine wpAnyH_take (i := 36) (v := ?_) rfl (by kernel_rfl) (by kernel_rfl) (by kernel_rfl) (fun _ _ _ h => h) (Or.inl ⟨by rfl, ?hyh111⟩) hHeld ?_
      case hyh111 => ((intro wz hSw); (simp only [Holds_cons, Holds_nil, and_true] at hSw); (obtain ⟨_, _, _, _, _, _, _, _, _, _, _, _⟩ := hSw); go_simp; (try with_reducible rfl))
      (try simp only [List.getElem_toArray, List.getElem_cons_succ, List.getElem_cons_zero, Act.put, List.setIfInBounds_toArray, List.set_cons_zero, List.set_cons_succ])
      refine wpAnyH_take (i := 37) (v := ?_) rfl (by kernel_rfl) (by kernel_rfl) (by kernel_rfl) (fun _ _ _ h => h) (Or.inl ⟨by rfl, ?hyh112⟩) hHeld ?_
      case hyh112 => ((intro wz hSw); (simp only [Holds_cons, Holds_nil, and_true] at hSw); (obtain ⟨_, _, _, _, _, _, _, _, _, _, _, _⟩ := hSw); go_simp; (try with_reducible rfl))
      (try simp only [List.getElem_toArray, List.getElem_cons_succ, List.getElem_cons_zero, Act.put, List.setIfInBounds_toArray, List.set_cons_zero, List.set_cons_succ])
      refine wpAnyH_take (i := 38) (v := ?_) rfl (by kernel_rfl) (by kernel_rfl) (by kernel_rfl) (fun _ _ _ h => h) (Or.inl ⟨by rfl, ?hyh113⟩) hHeld ?_
      case hyh113 => ((intro wz hSw); (simp only [Holds_cons, Holds_nil, and_true] at hSw); (obtain ⟨_, _, _, _, _, _, _, _, _, _, _, _⟩ := hSw); go_simp; (try with_reducible rfl))
      (try simp only [List.getElem_toArray, List.getElem_cons_succ, List.getElem_cons_zero, Act.put, List.setIfInBounds_toArray, List.set_cons_zero, List.set_cons_succ])
      refine wpAnyH_take (i := 39) (v := ?_) rfl (by kernel_rfl) (by kernel_rfl) (by kernel_rfl) (fun _ _ _ h => h) (Or.inl ⟨by rfl, ?hyh114⟩) hHeld ?_
      case hyh114 => ((intro wz hSw); (simp only [Holds_cons, Holds_nil, and_true] at hSw); (obtain ⟨_, _, _, _, _, _, _, _, _, _, _, _⟩ := hSw); go_simp; (try with_reducible rfl))
      (try simp only [List.getElem_toArray, List.getElem_cons_succ, List.getElem_cons_zero, Act.put, List.setIfInBounds_toArray, List.set_cons_zero, List.set_cons_succ])
      refine wpAnyH_take (i := 40) (v := ?_) rfl (by kernel_rfl) (by kernel_rfl) (by kernel_rfl) (fun _ _ _ h => h) (Or.inl ⟨by rfl, ?hyh115⟩) hHeld ?_
      case hyh115 => ((intro wz hSw); (simp only [Holds_cons, Holds_nil, and_true] at hSw); (obtain ⟨_, _, _, _, _, _, _, _, _, _, _, _⟩ := hSw); go_simp; (try with_reducible rfl))
      (try simp only [List.getElem_toArray, List.getElem_cons_succ, List.getElem_cons_zero, Act.put, List.setIfInBounds_toArray, List.set_cons_zero, List.set_cons_succ])
      refine wpAnyH_take (i := 41) (v := ?_) rfl (by kernel_rfl) (by kernel_rfl) (by kernel_rfl) (fun _ _ _ h => h) (Or.inl ⟨by rfl, ?hyh116⟩) hHeld ?_
      case hyh116 => ((intro wz hSw); (simp only [Holds_cons, Holds_nil, and_true] at hSw); (obtain ⟨_, _, _, _, _, _, _, _, _, _, _, _⟩ := hSw); go_simp; (try with_reducible rfl))
      (try simp only [List.getElem_toArray, List.getElem_cons_succ, List.getElem_cons_zero, Act.put, List.setIfInBounds_toArray, List.set_cons_zero, List.set_cons_succ])
      refine wpAnyH_take (i := 43) (v := ?_) rfl (by kernel_rfl) (by kernel_rfl) (by kernel_rfl) (fun _ _ _ h => h) (Or.inl ⟨by rfl, ?hyh117⟩) hHeld ?_
      case hyh117 => ((intro wz hSw); (simp only [Holds_cons, Holds_nil, and_true] at hSw); (obtain ⟨_, _, _, _, _, _, _, _, _, _, _, _⟩ := hSw); go_simp; (try with_reducible rfl))
      (try simp only [List.getElem_toArray, List.getElem_cons_succ, List.getElem_cons_zero, Act.put, List.setIfInBounds_toArray, List.set_cons_zero, List.set_cons_succ])
      refine wpAnyH_take (i := 44) (v := ?_) rfl (by kernel_rfl) (by kernel_rfl) (by kernel_rfl) (fun _ _ _ h => h) (Or.inl ⟨by rfl, ?hyh118⟩) hHeld ?_
      case hyh118 => ((intro wz hSw); (simp only [Holds_cons, Holds_nil, and_true] at hSw); (obtain ⟨_, _, _, _, _, _, _, _, _, _, _, _⟩ := hSw); go_simp; (try with_reducible rfl))
      (try simp only [List.getElem_toArray, List.getElem_cons_succ, List.getElem_cons_zero, Act.put, List.setIfInBounds_toArray, List.set_cons_zero, List.set_cons_succ])
      refine wpAnyH_ready (rs := [42]) (by kernel_rfl) (by simp) ?_
      refine AllReadyH.cons rfl (fun K hK => ?_) AllReadyH.nil
      go_simp
      (with_reducible refine (implSameRoutine_is _ _ _ _ _ _ _ _ _ _ _ (Qa.out.ext hv4.out) (Qb.out.ext hv4.out) v HV.out).mono ?_)
      rintro e v5 ⟨rfl, hxv5⟩
      (try go_wp2_with fail)
      have hv5 : Hid (Ext ((w7.alloc (.cells #[.int .i64 ha, .slice Aa ka ca] 29)).alloc (.cells #[.int .i64 hb2, .slice Ab kb cb] 29)).drew v5) := hv4.out.trans hxv5
      refine hK.out _ _ (HoldsE hHeld hxv5) (fun hHeldN => ?_)
      clear hK K hHeld
      have hHeld := hHeldN
      clear hHeldN
      (try simp only [List.getElem_toArray, List.getElem_cons_succ, List.getElem_cons_zero, Act.put, List.setIfInBounds_toArray, List.set_cons_zero, List.set_cons_succ])
      refine wpAnyH_ready (rs := [45]) (by kernel_rfl) (by simp) ?_
      refine AllReadyH.cons rfl (fun K hK => ?_) AllReadyH.nil
      go_simp
      (with_reducible refine (specSameRoutine_is _ _ _ _ _ _ _ _ _ _ _ (Qa.out.ext hv5.out) (Qb.out.ext hv5.out) v HV.out).mono ?_)
      rintro e v6 ⟨rfl, hxv6⟩
      (try go_wp2_with fail)
      have hv6 : Hid (Ext ((w7.alloc (.cells #[.int .i64 ha, .slice Aa ka ca] 29)).alloc (.cells #[.int .i64 hb2, .slice Ab kb cb] 29)).drew v6) := hv5.out.trans hxv6
      refine hK.out _ _ (HoldsE hHeld hxv6) (fun hHeldN => ?_)
      clear hK K hHeld
      have hHeld := hHeldN
      clear hHeldN
      (try simp only [List.getElem_toArray, List.getElem_cons_succ, List.getElem_cons_zero, Act.put, List.setIfInBounds_toArray, List.set_cons_zero, List.set_cons_succ])
      refine wpAnyH_take (i := 46) (v := ?_) rfl (by kernel_rfl) (by kernel_rfl) (by kernel_rfl) (fun _ _ _ h => h) (Or.inl ⟨by rfl, ?hyh119⟩) hHeld ?_
      case hyh119 => ((intro wz hSw); (simp only [Holds_cons, Holds_nil, and_true] at hSw); (obtain ⟨_, _, _, _, _, _, _, _, _, _, _, _⟩ := hSw); go_simp; (try with_reducible rfl))
      (try simp only [List.getElem_toArray, List.getElem_cons_succ, List.getElem_cons_zero, Act.put, List.setIfInBounds_toArray, List.set_cons_zero, List.set_cons_succ])
      refine wpAnyH_take (i := 47) (v := ?_) rfl (by kernel_rfl) (by kernel_rfl) (by kernel_rfl) (fun _ _ _ h => h) (Or.inl ⟨by rfl, ?hyh120⟩) hHeld ?_
      case hyh120 => ((intro wz hSw); (simp only [Holds_cons, Holds_nil, and_true] at hSw); (obtain ⟨_, _, _, _, _, _, _, _, _, _, _, _⟩ := hSw); go_simp; (try with_reducible rfl))
      (try simp only [List.getElem_toArray, List.getElem_cons_succ, List.getElem_cons_zero, Act.put, List.setIfInBounds_toArray, List.set_cons_zero, List.set_cons_succ])
      refine wpAnyH_take (i := 48) (v := ?_) rfl (by kernel_rfl) (by kernel_rfl) (by kernel_rfl) (fun _ _ _ h => h) (Or.inl ⟨by rfl, ?hyh121⟩) hHeld ?_
      case hyh121 => ((intro wz hSw); (simp only [Holds_cons, Holds_nil, and_true] at hSw); (obtain ⟨_, _, _, _, _, _, _, _, _, _, _, _⟩ := hSw); go_simp; (try with_reducible rfl))
      (try simp only [List.getElem_toArray, List.getElem_cons_succ, List.getElem_cons_zero, Act.put, List.setIfInBounds_toArray, List.set_cons_zero, List.set_cons_succ])
      refine wpAnyH_done (by kernel_rfl) ?_ _
      go_wp2
      go_ret
      exact ⟨rfl, Ext.below (hE0.out.trans hv6.out)⟩
    · skip
      have hsne : (⟨#[]⟩ : ByteArray).toList.isEmpty = true := by rw [ByteArray.toList_eq]; rfl
      refine wp_region_held_drew (S := Holds [(⟨w1.heap.size, 0, none⟩, .int .i64 hh), (⟨w1.heap.size, 1, none⟩, .slice A1 k c1), (⟨w3.heap.size, 0, none⟩, .int .i64 hb), (⟨w3.heap.size, 1, none⟩, .slice A5 pb.length c5), (⟨w5.heap.size, 0, none⟩, .int .i64 h2), (⟨w5.heap.size, 1, none⟩, .slice A8 qs.length c8), (⟨w6.heap.size, 0, none⟩, .int .i64 h2), (⟨w6.heap.size, 1, none⟩, .slice A9 qs.length c9), (⟨w7.heap.size, 0, none⟩, .int .i64 ha), (⟨w7.heap.size, 1, none⟩, .slice Aa ka ca), (⟨w7.heap.size + 1, 0, none⟩, .int .i64 hb2), (⟨w7.heap.size + 1, 1, none⟩, .slice Ab kb cb)]) (by kernel_rfl) (by (simp only [Holds_cons, Holds_nil, and_true]); exact ⟨hc00, hc01, hc10, hc11, hc20, hc21, hc30, hc31, hca0, hca1, hcb0, hcb1⟩) (fun hHeld => ?_)
      refine wpAnyH_take (i := 0) (v := ?_) rfl (by kernel_rfl) (by kernel_rfl) (by kernel_rfl) (fun _ _ _ h => h) (Or.inl ⟨by rfl, ?hyh122⟩) hHeld ?_
      case hyh122 => ((intro wz hSw); (simp only [Holds_cons, Holds_nil, and_true] at hSw); (obtain ⟨_, _, _, _, _, _, _, _, _, _, _, _⟩ := hSw); go_simp; (try with_reducible rfl))
      (try simp only [List.getElem_toArray, List.getElem_cons_succ, List.getElem_cons_zero, Act.put, List.setIfInBounds_toArray, List.set_cons_zero, List.set_cons_succ])
      refine wpAnyH_take (i := 1) (v := ?_) rfl (by kernel_rfl) (by kernel_rfl) (by kernel_rfl) (fun _ _ _ h => h) (Or.inl ⟨by rfl, ?hyh123⟩) hHeld ?_
      case hyh123 => ((intro wz hSw); (simp only [Holds_cons, Holds_nil, and_true] at hSw); (obtain ⟨_, _, _, _, _, _, _, _, _, _, _, _⟩ := hSw); go_simp; (try with_reducible rfl))
      (try simp only [List.getElem_toArray, List.getElem_cons_succ, List.getElem_cons_zero, Act.put, List.setIfInBounds_toArray, List.set_cons_zero, List.set_cons_succ])
      refine wpAnyH_ready (rs := [2]) (by kernel_rfl) (by simp) ?_
      refine AllReadyH.cons rfl (fun K hK => ?_) AllReadyH.nil
      go_simp
      (with_reducible refine (specRoutineText_is A1 k c1 ps hh _ (Q1.out.ext (Ext.refl _)) ⟨#[]⟩ HRT.out).mono ?_)
      rintro e v1 ⟨rfl, hxv1⟩
      (try go_wp2_with fail)
      have hv1 : Hid (Ext ((w7.alloc (.cells #[.int .i64 ha, .slice Aa ka ca] 29)).alloc (.cells #[.int .i64 hb2, .slice Ab kb cb] 29)).drew v1) := hxv1
      refine hK.out _ _ (HoldsE hHeld hxv1) (fun hHeldN => ?_)
      clear hK K hHeld
      have hHeld := hHeldN
      clear hHeldN
      (try simp only [List.getElem_toArray, List.getElem_cons_succ, List.getElem_cons_zero, Act.put, List.setIfInBounds_toArray, List.set_cons_zero, List.set_cons_succ])
      refine wpAnyH_take (i := 3) (v := ?_) rfl (by kernel_rfl) (by kernel_rfl) (by kernel_rfl) (fun _ _ _ h => h) (Or.inl ⟨by rfl, ?hyh124⟩) hHeld ?_
      case hyh124 => ((intro wz hSw); (simp only [Holds_cons, Holds_nil, and_true] at hSw); (obtain ⟨_, _, _, _, _, _, _, _, _, _, _, _⟩ := hSw); go_simp; (try with_reducible rfl))
      (try simp only [List.getElem_toArray, List.getElem_cons_succ, List.getElem_cons_zero, Act.put, List.setIfInBounds_toArray, List.set_cons_zero, List.set_cons_succ])
      refine wpAnyH_take (i := 4) (v := ?_) rfl (by kernel_rfl) (by kernel_rfl) (by kernel_rfl) (fun _ _ _ h => h) (Or.inl ⟨by rfl, ?hyh125⟩) hHeld ?_
      case hyh125 => ((intro wz hSw); (simp only [Holds_cons, Holds_nil, and_true] at hSw); (obtain ⟨_, _, _, _, _, _, _, _, _, _, _, _⟩ := hSw); go_simp; (try with_reducible rfl))
      (try simp only [List.getElem_toArray, List.getElem_cons_succ, List.getElem_cons_zero, Act.put, List.setIfInBounds_toArray, List.set_cons_zero, List.set_cons_succ])
      refine wpAnyH_take (i := 5) (v := ?_) rfl (by kernel_rfl) (by kernel_rfl) (by kernel_rfl) (fun _ _ _ h => h) (Or.inl ⟨by rfl, ?hyh126⟩) hHeld ?_
      case hyh126 => ((intro wz hSw); (simp only [Holds_cons, Holds_nil, and_true] at hSw); (obtain ⟨_, _, _, _, _, _, _, _, _, _, _, _⟩ := hSw); go_simp; (try with_reducible rfl))
      (try simp only [List.getElem_toArray, List.getElem_cons_succ, List.getElem_cons_zero, Act.put, List.setIfInBounds_toArray, List.set_cons_zero, List.set_cons_succ])
      refine wpAnyH_take (i := 6) (v := ?_) rfl (by kernel_rfl) (by kernel_rfl) (by kernel_rfl) (fun _ _ _ h => h) (Or.inl ⟨by rfl, ?hyh127⟩) hHeld ?_
      case hyh127 => ((intro wz hSw); (simp only [Holds_cons, Holds_nil, and_true] at hSw); (obtain ⟨_, _, _, _, _, _, _, _, _, _, _, _⟩ := hSw); go_simp; (try with_reducible rfl))
      (try simp only [List.getElem_toArray, List.getElem_cons_succ, List.getElem_cons_zero, Act.put, List.setIfInBounds_toArray, List.set_cons_zero, List.set_cons_succ])
      refine wpAnyH_take (i := 7) (v := ?_) rfl (by kernel_rfl) (by kernel_rfl) (by kernel_rfl) (fun _ _ _ h => h) (Or.inl ⟨by rfl, ?hyh128⟩) hHeld ?_
      case hyh128 => ((intro wz hSw); (simp only [Holds_cons, Holds_nil, and_true] at hSw); (obtain ⟨_, _, _, _, _, _, _, _, _, _, _, _⟩ := hSw); go_simp; (try with_reducible rfl))
      (try simp only [List.getElem_toArray, List.getElem_cons_succ, List.getElem_cons_zero, Act.put, List.setIfInBounds_toArray, List.set_cons_zero, List.set_cons_succ])
      refine wpAnyH_take (i := 8) (v := ?_) rfl (by kernel_rfl) (by kernel_rfl) (by kernel_rfl) (fun _ _ _ h => h) (Or.inl ⟨by rfl, ?hyh129⟩) hHeld ?_
      case hyh129 => ((intro wz hSw); (simp only [Holds_cons, Holds_nil, and_true] at hSw); (obtain ⟨_, _, _, _, _, _, _, _, _, _, _, _⟩ := hSw); go_simp; (try with_reducible rfl))
      (try simp only [List.getElem_toArray, List.getElem_cons_succ, List.getElem_cons_zero, Act.put, List.setIfInBounds_toArray, List.set_cons_zero, List.set_cons_succ])
      refine wpAnyH_take (i := 9) (v := ?_) rfl (by kernel_rfl) (by kernel_rfl) (by kernel_rfl) (fun _ _ _ h => h) (Or.inl ⟨by rfl, ?hyh130⟩) hHeld ?_
      case hyh130 => ((intro wz hSw); (simp only [Holds_cons, Holds_nil, and_true] at hSw); (obtain ⟨_, _, _, _, _, _, _, _, _, _, _, _⟩ := hSw); go_simp; (try with_reducible rfl))
      (try simp only [List.getElem_toArray, List.getElem_cons_succ, List.getElem_cons_zero, Act.put, List.setIfInBounds_toArray, List.set_cons_zero, List.set_cons_succ])
      refine wpAnyH_take (i := 10) (v := ?_) rfl (by kernel_rfl) (by kernel_rfl) (by kernel_rfl) (fun _ _ _ h => h) (Or.inl ⟨by rfl, ?hyh131⟩) hHeld ?_
      case hyh131 => ((intro wz hSw); (simp only [Holds_cons, Holds_nil, and_true] at hSw); (obtain ⟨_, _, _, _, _, _, _, _, _, _, _, _⟩ := hSw); go_simp; (try with_reducible rfl))
      (try simp only [List.getElem_toArray, List.getElem_cons_succ, List.getElem_cons_zero, Act.put, List.setIfInBounds_toArray, List.set_cons_zero, List.set_cons_succ])
      refine wpAnyH_take (i := 11) (v := ?_) rfl (by kernel_rfl) (by kernel_rfl) (by kernel_rfl) (fun _ _ _ h => h) (Or.inl ⟨by rfl, ?hyh132⟩) hHeld ?_
      case hyh132 => ((intro wz hSw); (simp only [Holds_cons, Holds_nil, and_true] at hSw); (obtain ⟨_, _, _, _, _, _, _, _, _, _, _, _⟩ := hSw); go_simp; (try with_reducible rfl))
      (try simp only [List.getElem_toArray, List.getElem_cons_succ, List.getElem_cons_zero, Act.put, List.setIfInBounds_toArray, List.set_cons_zero, List.set_cons_succ])
      refine wpAnyH_take (i := 12) (v := ?_) rfl (by kernel_rfl) (by kernel_rfl) (by kernel_rfl) (fun _ _ _ h => h) (Or.inl ⟨by rfl, ?hyh133⟩) hHeld ?_
      case hyh133 => ((intro wz hSw); (simp only [Holds_cons, Holds_nil, and_true] at hSw); (obtain ⟨_, _, _, _, _, _, _, _, _, _, _, _⟩ := hSw); go_simp; (try with_reducible rfl))
      (try simp only [List.getElem_toArray, List.getElem_cons_succ, List.getElem_cons_zero, Act.put, List.setIfInBounds_toArray, List.set_cons_zero, List.set_cons_succ])
      refine wpAnyH_take (i := 13) (v := ?_) rfl (by kernel_rfl) (by kernel_rfl) (by kernel_rfl) (fun _ _ _ h => h) (Or.inl ⟨by rfl, ?hyh134⟩) hHeld ?_
      case hyh134 => ((intro wz hSw); (simp only [Holds_cons, Holds_nil, and_true] at hSw); (obtain ⟨_, _, _, _, _, _, _, _, _, _, _, _⟩ := hSw); go_simp; (try with_reducible rfl))
      (try simp only [List.getElem_toArray, List.getElem_cons_succ, List.getElem_cons_zero, Act.put, List.setIfInBounds_toArray, List.set_cons_zero, List.set_cons_succ])
      refine wpAnyH_take (i := 14) (v := undef) rfl (by kernel_rfl) (by kernel_rfl) (by kernel_rfl) (fun _ _ _ h => h) (Or.inr ⟨by rfl, rfl⟩) hHeld ?_
      (try simp only [List.getElem_toArray, List.getElem_cons_succ, List.getElem_cons_zero, Act.put, List.setIfInBounds_toArray, List.set_cons_zero, List.set_cons_succ])
      refine wpAnyH_take (i := 15) (v := undef) rfl (by kernel_rfl) (by kernel_rfl) (by kernel_rfl) (fun _ _ _ h => h) (Or.inr ⟨by rfl, rfl⟩) hHeld ?_
      (try simp only [List.getElem_toArray, List.getElem_cons_succ, List.getElem_cons_zero, Act.put, List.setIfInBounds_toArray, List.set_cons_zero, List.set_cons_succ])
      refine wpAnyH_take (i := 16) (v := undef) rfl (by kernel_rfl) (by kernel_rfl) (by kernel_rfl) (fun _ _ _ h => h) (Or.inr ⟨by rfl, rfl⟩) hHeld ?_
      (try simp only [List.getElem_toArray, List.getElem_cons_succ, List.getElem_cons_zero, Act.put, List.setIfInBounds_toArray, List.set_cons_zero, List.set_cons_succ])
      refine wpAnyH_take (i := 17) (v := ?_) rfl (by kernel_rfl) (by kernel_rfl) (by kernel_rfl) (fun _ _ _ h => h) (Or.inl ⟨by rfl, ?hyh135⟩) hHeld ?_
      case hyh135 => ((intro wz hSw); (simp only [Holds_cons, Holds_nil, and_true] at hSw); (obtain ⟨_, _, _, _, _, _, _, _, _, _, _, _⟩ := hSw); go_simp; (try with_reducible rfl))
      (try simp only [List.getElem_toArray, List.getElem_cons_succ, List.getElem_cons_zero, Act.put, List.setIfInBounds_toArray, List.set_cons_zero, List.set_cons_succ])
      refine wpAnyH_take (i := 18) (v := ?_) rfl (by kernel_rfl) (by kernel_rfl) (by kernel_rfl) (fun _ _ _ h => h) (Or.inl ⟨by rfl, ?hyh136⟩) hHeld ?_
      case hyh136 => ((intro wz hSw); (simp only [Holds_cons, Holds_nil, and_true] at hSw); (obtain ⟨_, _, _, _, _, _, _, _, _, _, _, _⟩ := hSw); go_simp; (try with_reducible rfl))
      (try simp only [List.getElem_toArray, List.getElem_cons_succ, List.getElem_cons_zero, Act.put, List.setIfInBounds_toArray, List.set_cons_zero, List.set_cons_succ])
      refine wpAnyH_take (i := 19) (v := ?_) rfl (by kernel_rfl) (by kernel_rfl) (by kernel_rfl) (fun _ _ _ h => h) (Or.inl ⟨by rfl, ?hyh137⟩) hHeld ?_
      case hyh137 => ((intro wz hSw); (simp only [Holds_cons, Holds_nil, and_true] at hSw); (obtain ⟨_, _, _, _, _, _, _, _, _, _, _, _⟩ := hSw); go_simp; (try with_reducible rfl))
      (try simp only [List.getElem_toArray, List.getElem_cons_succ, List.getElem_cons_zero, Act.put, List.setIfInBounds_toArray, List.set_cons_zero, List.set_cons_succ])
      refine wpAnyH_take (i := 20) (v := ?_) rfl (by kernel_rfl) (by kernel_rfl) (by kernel_rfl) (fun _ _ _ h => h) (Or.inl ⟨by rfl, ?hyh138⟩) hHeld ?_
      case hyh138 => ((intro wz hSw); (simp only [Holds_cons, Holds_nil, and_true] at hSw); (obtain ⟨_, _, _, _, _, _, _, _, _, _, _, _⟩ := hSw); go_simp; (try with_reducible rfl))
      (try simp only [List.getElem_toArray, List.getElem_cons_succ, List.getElem_cons_zero, Act.put, List.setIfInBounds_toArray, List.set_cons_zero, List.set_cons_succ])
      refine wpAnyH_take (i := 21) (v := ?_) rfl (by kernel_rfl) (by kernel_rfl) (by kernel_rfl) (fun _ _ _ h => h) (Or.inl ⟨by rfl, ?hyh139⟩) hHeld ?_
      case hyh139 => ((intro wz hSw); (simp only [Holds_cons, Holds_nil, and_true] at hSw); (obtain ⟨_, _, _, _, _, _, _, _, _, _, _, _⟩ := hSw); go_simp; (try with_reducible rfl))
      (try simp only [List.getElem_toArray, List.getElem_cons_succ, List.getElem_cons_zero, Act.put, List.setIfInBounds_toArray, List.set_cons_zero, List.set_cons_succ])
      refine wpAnyH_take (i := 22) (v := ?_) rfl (by kernel_rfl) (by kernel_rfl) (by kernel_rfl) (fun _ _ _ h => h) (Or.inl ⟨by rfl, ?hyh140⟩) hHeld ?_
      case hyh140 => ((intro wz hSw); (simp only [Holds_cons, Holds_nil, and_true] at hSw); (obtain ⟨_, _, _, _, _, _, _, _, _, _, _, _⟩ := hSw); go_simp; (try with_reducible rfl))
      (try simp only [List.getElem_toArray, List.getElem_cons_succ, List.getElem_cons_zero, Act.put, List.setIfInBounds_toArray, List.set_cons_zero, List.set_cons_succ])
      refine wpAnyH_take (i := 23) (v := ?_) rfl (by kernel_rfl) (by kernel_rfl) (by kernel_rfl) (fun _ _ _ h => h) (Or.inl ⟨by rfl, ?hyh141⟩) hHeld ?_
      case hyh141 => ((intro wz hSw); (simp only [Holds_cons, Holds_nil, and_true] at hSw); (obtain ⟨_, _, _, _, _, _, _, _, _, _, _, _⟩ := hSw); go_simp; (try with_reducible rfl))
      (try simp only [List.getElem_toArray, List.getElem_cons_succ, List.getElem_cons_zero, Act.put, List.setIfInBounds_toArray, List.set_cons_zero, List.set_cons_succ])
      refine wpAnyH_take (i := 24) (v := ?_) rfl (by kernel_rfl) (by kernel_rfl) (by kernel_rfl) (fun _ _ _ h => h) (Or.inl ⟨by rfl, ?hyh142⟩) hHeld ?_
      case hyh142 => ((intro wz hSw); (simp only [Holds_cons, Holds_nil, and_true] at hSw); (obtain ⟨_, _, _, _, _, _, _, _, _, _, _, _⟩ := hSw); go_simp; (try with_reducible rfl))
      (try simp only [List.getElem_toArray, List.getElem_cons_succ, List.getElem_cons_zero, Act.put, List.setIfInBounds_toArray, List.set_cons_zero, List.set_cons_succ])
      refine wpAnyH_take (i := 25) (v := ?_) rfl (by kernel_rfl) (by kernel_rfl) (by kernel_rfl) (fun _ _ _ h => h) (Or.inl ⟨by rfl, ?hyh143⟩) hHeld ?_
      case hyh143 => ((intro wz hSw); (simp only [Holds_cons, Holds_nil, and_true] at hSw); (obtain ⟨_, _, _, _, _, _, _, _, _, _, _, _⟩ := hSw); go_simp; (try with_reducible rfl))
      (try simp only [List.getElem_toArray, List.getElem_cons_succ, List.getElem_cons_zero, Act.put, List.setIfInBounds_toArray, List.set_cons_zero, List.set_cons_succ])
      refine wpAnyH_take (i := 26) (v := ?_) rfl (by kernel_rfl) (by kernel_rfl) (by kernel_rfl) (fun _ _ _ h => h) (Or.inl ⟨by rfl, ?hyh144⟩) hHeld ?_
      case hyh144 => ((intro wz hSw); (simp only [Holds_cons, Holds_nil, and_true] at hSw); (obtain ⟨_, _, _, _, _, _, _, _, _, _, _, _⟩ := hSw); go_simp; (try with_reducible rfl))
      (try simp only [List.getElem_toArray, List.getElem_cons_succ, List.getElem_cons_zero, Act.put, List.setIfInBounds_toArray, List.set_cons_zero, List.set_cons_succ])
      refine wpAnyH_ready (rs := [27]) (by kernel_rfl) (by simp) ?_
      refine AllReadyH.cons rfl (fun K hK => ?_) AllReadyH.nil
      go_simp
      (with_reducible refine (specSameRoutine_is _ _ _ _ _ _ _ _ _ _ _ (Q8.out.ext hv1.out) (Q9.out.ext hv1.out) true (decide_eq_true ⟨rfl, rfl⟩)).mono ?_)
      rintro e v2 ⟨rfl, hxv2⟩
      (try go_wp2_with fail)
      have hv2 : Hid (Ext ((w7.alloc (.cells #[.int .i64 ha, .slice Aa ka ca] 29)).alloc (.cells #[.int .i64 hb2, .slice Ab kb cb] 29)).drew v2) := hv1.out.trans hxv2
      refine hK.out _ _ (HoldsE hHeld hxv2) (fun hHeldN => ?_)
      clear hK K hHeld
      have hHeld := hHeldN
      clear hHeldN
      (try simp only [List.getElem_toArray, List.getElem_cons_succ, List.getElem_cons_zero, Act.put, List.setIfInBounds_toArray, List.set_cons_zero, List.set_cons_succ])
      refine wpAnyH_take (i := 28) (v := ?_) rfl (by kernel_rfl) (by kernel_rfl) (by kernel_rfl) (fun _ _ _ h => h) (Or.inl ⟨by rfl, ?hyh145⟩) hHeld ?_
      case hyh145 => ((intro wz hSw); (simp only [Holds_cons, Holds_nil, and_true] at hSw); (obtain ⟨_, _, _, _, _, _, _, _, _, _, _, _⟩ := hSw); go_simp; (try with_reducible rfl))
      (try simp only [List.getElem_toArray, List.getElem_cons_succ, List.getElem_cons_zero, Act.put, List.setIfInBounds_toArray, List.set_cons_zero, List.set_cons_succ])
      refine wpAnyH_take (i := 29) (v := ?_) rfl (by kernel_rfl) (by kernel_rfl) (by kernel_rfl) (fun _ _ _ h => h) (Or.inl ⟨by rfl, ?hyh146⟩) hHeld ?_
      case hyh146 => ((intro wz hSw); (simp only [Holds_cons, Holds_nil, and_true] at hSw); (obtain ⟨_, _, _, _, _, _, _, _, _, _, _, _⟩ := hSw); go_simp; (try with_reducible rfl))
      (try simp only [List.getElem_toArray, List.getElem_cons_succ, List.getElem_cons_zero, Act.put, List.setIfInBounds_toArray, List.set_cons_zero, List.set_cons_succ])
      refine wpAnyH_take (i := 30) (v := ?_) rfl (by kernel_rfl) (by kernel_rfl) (by kernel_rfl) (fun _ _ _ h => h) (Or.inl ⟨by rfl, ?hyh147⟩) hHeld ?_
      case hyh147 => ((intro wz hSw); (simp only [Holds_cons, Holds_nil, and_true] at hSw); (obtain ⟨_, _, _, _, _, _, _, _, _, _, _, _⟩ := hSw); go_simp; (try with_reducible rfl))
      (try simp only [List.getElem_toArray, List.getElem_cons_succ, List.getElem_cons_zero, Act.put, List.setIfInBounds_toArray, List.set_cons_zero, List.set_cons_succ])
      refine wpAnyH_take (i := 31) (v := ?_) rfl (by kernel_rfl) (by kernel_rfl) (by kernel_rfl) (fun _ _ _ h => h) (Or.inl ⟨by rfl, ?hyh148⟩) hHeld ?_
      case hyh148 => ((intro wz hSw); (simp only [Holds_cons, Holds_nil, and_true] at hSw); (obtain ⟨_, _, _, _, _, _, _, _, _, _, _, _⟩ := hSw); go_simp; (try with_reducible rfl))
      (try simp only [List.getElem_toArray, List.getElem_cons_succ, List.getElem_cons_zero, Act.put, List.setIfInBounds_toArray, List.set_cons_zero, List.set_cons_succ])
      refine wpAnyH_take (i := 32) (v := ?_) rfl (by kernel_rfl) (by kernel_rfl) (by kernel_rfl) (fun _ _ _ h => h) (Or.inl ⟨by rfl, ?hyh149⟩) hHeld ?_
      case hyh149 => ((intro wz hSw); (simp only [Holds_cons, Holds_nil, and_true] at hSw); (obtain ⟨_, _, _, _, _, _, _, _, _, _, _, _⟩ := hSw); go_simp; (try with_reducible rfl))
      (try simp only [List.getElem_toArray, List.getElem_cons_succ, List.getElem_cons_zero, Act.put, List.setIfInBounds_toArray, List.set_cons_zero, List.set_cons_succ])
      refine wpAnyH_take (i := 33) (v := ?_) rfl (by kernel_rfl) (by kernel_rfl) (by kernel_rfl) (fun _ _ _ h => h) (Or.inl ⟨by rfl, ?hyh150⟩) hHeld ?_
      case hyh150 => ((intro wz hSw); (simp only [Holds_cons, Holds_nil, and_true] at hSw); (obtain ⟨_, _, _, _, _, _, _, _, _, _, _, _⟩ := hSw); go_simp; (try with_reducible rfl))
      (try simp only [List.getElem_toArray, List.getElem_cons_succ, List.getElem_cons_zero, Act.put, List.setIfInBounds_toArray, List.set_cons_zero, List.set_cons_succ])
      refine wpAnyH_take (i := 35) (v := ?_) rfl (by kernel_rfl) (by kernel_rfl) (by kernel_rfl) (fun _ _ _ h => h) (Or.inl ⟨by rfl, ?hyh151⟩) hHeld ?_
      case hyh151 => ((intro wz hSw); (simp only [Holds_cons, Holds_nil, and_true] at hSw); (obtain ⟨_, _, _, _, _, _, _, _, _, _, _, _⟩ := hSw); go_simp; (try with_reducible rfl))
      (try simp only [List.getElem_toArray, List.getElem_cons_succ, List.getElem_cons_zero, Act.put, List.setIfInBounds_toArray, List.set_cons_zero, List.set_cons_succ])
      refine wpAnyH_ready (rs := [34]) (by kernel_rfl) (by simp) ?_
      refine AllReadyH.cons rfl (fun K hK => ?_) AllReadyH.nil
      go_simp
      (with_reducible refine (implRoutineText_is A8 _ c8 qs h2 _ (Q8.out.ext hv2.out) (HT0.out.ext hv2.out) s2 HRQ.out).mono ?_)
      rintro e v3 ⟨rfl, hxv3⟩
      (try go_wp2_with fail)
      have hv3 : Hid (Ext ((w7.alloc (.cells #[.int .i64 ha, .slice Aa ka ca] 29)).alloc (.cells #[.int .i64 hb2, .slice Ab kb cb] 29)).drew v3) := hv2.out.trans hxv3
      refine hK.out _ _ (HoldsE hHeld hxv3) (fun hHeldN => ?_)
      clear hK K hHeld
      have hHeld := hHeldN
      clear hHeldN
      (try simp only [List.getElem_toArray, List.getElem_cons_succ, List.getElem_cons_zero, Act.put, List.setIfInBounds_toArray, List.set_cons_zero, List.set_cons_succ])
      refine wpAnyH_take (i := 36) (v := ?_) rfl (by kernel_rfl) (by kernel_rfl) (by kernel_rfl) (fun _ _ _ h => h) (Or.inl ⟨by rfl, ?hyh152⟩) hHeld ?_
      case hyh152 => ((intro wz hSw); (simp only [Holds_cons, Holds_nil, and_true] at hSw); (obtain ⟨_, _, _, _, _, _, _, _, _, _, _, _⟩ := hSw); go_simp; (try with_reducible rfl))
      (try simp only [List.getElem_toArray, List.getElem_cons_succ, List.getElem_cons_zero, Act.put, List.setIfInBounds_toArray, List.set_cons_zero, List.set_cons_succ])
      refine wpAnyH_take (i := 37) (v := ?_) rfl (by kernel_rfl) (by kernel_rfl) (by kernel_rfl) (fun _ _ _ h => h) (Or.inl ⟨by rfl, ?hyh153⟩) hHeld ?_
      case hyh153 => ((intro wz hSw); (simp only [Holds_cons, Holds_nil, and_true] at hSw); (obtain ⟨_, _, _, _, _, _, _, _, _, _, _, _⟩ := hSw); go_simp; (try with_reducible rfl))
      (try simp only [List.getElem_toArray, List.getElem_cons_succ, List.getElem_cons_zero, Act.put, List.setIfInBounds_toArray, List.set_cons_zero, List.set_cons_succ])
      refine wpAnyH_take (i := 38) (v := ?_) rfl (by kernel_rfl) (by kernel_rfl) (by kernel_rfl) (fun _ _ _ h => h) (Or.inl ⟨by rfl, ?hyh154⟩) hHeld ?_
      case hyh154 => ((intro wz hSw); (simp only [Holds_cons, Holds_nil, and_true] at hSw); (obtain ⟨_, _, _, _, _, _, _, _, _, _, _, _⟩ := hSw); go_simp; (try with_reducible rfl))
      (try simp only [List.getElem_toArray, List.getElem_cons_succ, List.getElem_cons_zero, Act.put, List.setIfInBounds_toArray, List.set_cons_zero, List.set_cons_succ])
      refine wpAnyH_take (i := 39) (v := ?_) rfl (by kernel_rfl) (by kernel_rfl) (by kernel_rfl) (fun _ _ _ h => h) (Or.inl ⟨by rfl, ?hyh155⟩) hHeld ?_
      case hyh155 => ((intro wz hSw); (simp only [Holds_cons, Holds_nil, and_true] at hSw); (obtain ⟨_, _, _, _, _, _, _, _, _, _, _, _⟩ := hSw); go_simp; (try with_reducible rfl))
      (try simp only [List.getElem_toArray, List.getElem_cons_succ, List.getElem_cons_zero, Act.put, List.setIfInBounds_toArray, List.set_cons_zero, List.set_cons_succ])
      refine wpAnyH_take (i := 40) (v := ?_) rfl (by kernel_rfl) (by kernel_rfl) (by kernel_rfl) (fun _ _ _ h => h) (Or.inl ⟨by rfl, ?hyh156⟩) hHeld ?_
      case hyh156 => ((intro wz hSw); (simp only [Holds_cons, Holds_nil, and_true] at hSw); (obtain ⟨_, _, _, _, _, _, _, _, _, _, _, _⟩ := hSw); go_simp; (try with_reducible rfl))
      (try simp only [List.getElem_toArray, List.getElem_cons_succ, List.getElem_cons_zero, Act.put, List.setIfInBounds_toArray, List.set_cons_zero, List.set_cons_succ])
      refine wpAnyH_take (i := 41) (v := ?_) rfl (by kernel_rfl) (by kernel_rfl) (by kernel_rfl) (fun _ _ _ h => h) (Or.inl ⟨by rfl, ?hyh157⟩) hHeld ?_
      case hyh157 => ((intro wz hSw); (simp only [Holds_cons, Holds_nil, and_true] at hSw); (obtain ⟨_, _, _, _, _, _, _, _, _, _, _, _⟩ := hSw); go_simp; (try with_reducible rfl))
      (try simp only [List.getElem_toArray, List.getElem_cons_succ, List.getElem_cons_zero, Act.put, List.setIfInBounds_toArray, List.set_cons_zero, List.set_cons_succ])
      refine wpAnyH_take (i := 43) (v := ?_) rfl (by kernel_rfl) (by kernel_rfl) (by kernel_rfl) (fun _ _ _ h => h) (Or.inl ⟨by rfl, ?hyh158⟩) hHeld ?_
      case hyh158 => ((intro wz hSw); (simp only [Holds_cons, Holds_nil, and_true] at hSw); (obtain ⟨_, _, _, _, _, _, _, _, _, _, _, _⟩ := hSw); go_simp; (try with_reducible rfl))
      (try simp only [List.getElem_toArray, List.getElem_cons_succ, List.getElem_cons_zero, Act.put, List.setIfInBounds_toArray, List.set_cons_zero, List.set_cons_succ])
      refine wpAnyH_take (i := 44) (v := ?_) rfl (by kernel_rfl) (by kernel_rfl) (by kernel_rfl) (fun _ _ _ h => h) (Or.inl ⟨by rfl, ?hyh159⟩) hHeld ?_
      case hyh159 => ((intro wz hSw); (simp only [Holds_cons, Holds_nil, and_true] at hSw); (obtain ⟨_, _, _, _, _, _, _, _, _, _, _, _⟩ := hSw); go_simp; (try with_reducible rfl))
      (try simp only [List.getElem_toArray, List.getElem_cons_succ, List.getElem_cons_zero, Act.put, List.setIfInBounds_toArray, List.set_cons_zero, List.set_cons_succ])
      refine wpAnyH_ready (rs := [42]) (by kernel_rfl) (by simp) ?_
      refine AllReadyH.cons rfl (fun K hK => ?_) AllReadyH.nil
      go_simp
      (with_reducible refine (implSameRoutine_is _ _ _ _ _ _ _ _ _ _ _ (Qa.out.ext hv3.out) (Qb.out.ext hv3.out) v HV.out).mono ?_)
      rintro e v4 ⟨rfl, hxv4⟩
      (try go_wp2_with fail)
      have hv4 : Hid (Ext ((w7.alloc (.cells #[.int .i64 ha, .slice Aa ka ca] 29)).alloc (.cells #[.int .i64 hb2, .slice Ab kb cb] 29)).drew v4) := hv3.out.trans hxv4
      refine hK.out _ _ (HoldsE hHeld hxv4) (fun hHeldN => ?_)
      clear hK K hHeld
      have hHeld := hHeldN
      clear hHeldN
      (try simp only [List.getElem_toArray, List.getElem_cons_succ, List.getElem_cons_zero, Act.put, List.setIfInBounds_toArray, List.set_cons_zero, List.set_cons_succ])
      refine wpAnyH_ready (rs := [45]) (by kernel_rfl) (by simp) ?_
      refine AllReadyH.cons rfl (fun K hK => ?_) AllReadyH.nil
      go_simp
      (with_reducible refine (specSameRoutine_is _ _ _ _ _ _ _ _ _ _ _ (Qa.out.ext hv4.out) (Qb.out.ext hv4.out) v HV.out).mono ?_)
      rintro e v5 ⟨rfl, hxv5⟩
      (try go_wp2_with fail)
      have hv5 : Hid (Ext ((w7.alloc (.cells #[.int .i64 ha, .slice Aa ka ca] 29)).alloc (.cells #[.int .i64 hb2, .slice Ab kb cb] 29)).drew v5) := hv4.out.trans hxv5
      refine hK.out _ _ (HoldsE hHeld hxv5) (fun hHeldN => ?_)
      clear hK K hHeld
      have hHeld := hHeldN
      clear hHeldN
      (try simp only [List.getElem_toArray, List.getElem_cons_succ, List.getElem_cons_zero, Act.put, List.setIfInBounds_toArray, List.set_cons_zero, List.set_cons_succ])
      refine wpAnyH_take (i := 46) (v := ?_) rfl (by kernel_rfl) (by kernel_rfl) (by kernel_rfl) (fun _ _ _ h => h) (Or.inl ⟨by rfl, ?hyh160⟩) hHeld ?_
      case hyh160 => ((intro wz hSw); (simp only [Holds_cons, Holds_nil, and_true] at hSw); (obtain ⟨_, _, _, _, _, _, _, _, _, _, _, _⟩ := hSw); go_simp; (try with_reducible rfl))
      (try simp only [List.getElem_toArray, List.getElem_cons_succ, List.getElem_cons_zero, Act.put, List.setIfInBounds_toArray, List.set_cons_zero, List.set_cons_succ])
      refine wpAnyH_take (i := 47) (v := ?_) rfl (by kernel_rfl) (by kernel_rfl) (by kernel_rfl) (fun _ _ _ h => h) (Or.inl ⟨by rfl, ?hyh161⟩) hHeld ?_
      case hyh161 => ((intro wz hSw); (simp only [Holds_cons, Holds_nil, and_true] at hSw); (obtain ⟨_, _, _, _, _, _, _, _, _, _, _, _⟩ := hSw); go_simp; (try with_reducible rfl))
      (try simp only [List.getElem_toArray, List.getElem_cons_succ, List.getElem_cons_zero, Act.put, List.setIfInBounds_toArray, List.set_cons_zero, List.set_cons_succ])
      refine wpAnyH_take (i := 48) (v := ?_) rfl (by kernel_rfl) (by kernel_rfl) (by kernel_rfl) (fun _ _ _ h => h) (Or.inl ⟨by rfl, ?hyh162⟩) hHeld ?_
      case hyh162 => ((intro wz hSw); (simp only [Holds_cons, Holds_nil, and_true] at hSw); (obtain ⟨_, _, _, _, _, _, _, _, _, _, _, _⟩ := hSw); go_simp; (try with_reducible rfl))
      (try simp only [List.getElem_toArray, List.getElem_cons_succ, List.getElem_cons_zero, Act.put, List.setIfInBounds_toArray, List.set_cons_zero, List.set_cons_succ])
      refine wpAnyH_done (by kernel_rfl) ?_ _
      go_wp2
      go_ret
      exact ⟨rfl, Ext.below (hE0.out.trans hv5.out)⟩
end Go.Proofs.YtinkaglngblddaaDoor.fnRoutineTexts
