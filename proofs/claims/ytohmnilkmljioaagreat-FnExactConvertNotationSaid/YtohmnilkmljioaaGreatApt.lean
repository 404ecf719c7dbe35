/- Both jugglers' patterns of a passing pattern without passes: contracts of ApartOf, both sides. No condition but the stated bounds. (tools/gapt.py) -/
import Derived.Test.YtohmnilkmljioaaGreatAlo
import Derived.Test.YtohmnilkmljioaaGreatThr4
import Derived.Deep.RegionLawGrows
import Derived.Deep.RegionHeld3
namespace Go.Proofs.YtohmnilkmljioaaGreat
set_option linter.unusedVariables false
set_option linter.unusedSimpArgs false
open Go.ChangeShapes Go.WideShapes Go.ChangeAt Go.RowKit Go.Joins Go.Deep

theorem Own.base2 {w w1 w' : World} {v : Value} {ys : List Int} (h : Own w1 w' v ys) (k : Ext w w1) : Own w w' v ys := ⟨ownsRow_le h.own k.size, k.trans h.ext⟩
/-- What ApartOf hands back for a valid pattern. -/
def RetAp (w : World) (ts us : List (Int × Bool)) (n : Nat) (e : Ending) (w' : World) : Prop :=
  (NoP ts n ∧ NoP us n ∧ ∃ A c B d, e = .returned (.tuple #[.slice A n c, .slice B n d, .int .i64 0]) ∧ Own w w' (.slice A n c) (vls ts n) ∧ Own w w' (.slice B n d) (vls us n)) ∨ (¬ (NoP ts n ∧ NoP us n) ∧ e = .returned (.tuple #[.slice none 0 0, .slice none 0 0, .int .i64 10]) ∧ Ext w w')
theorem ValidPassing_is (A B : Option Addr) (n c m d : Nat) (ts us : List (Int × Bool)) (v : Bool) (hv : vpas ts us = v) (w : World) (hI : Thr w A n ts) (hJ : Thr w B m us) :
    Calls Tryz.prog 67 #[.agg #[.slice A n c, .slice B m d]] w fun e w' => e = .returned (.bool v) ∧ Ext w w' := by
  subst hv
  exact ValidPassing_any A B n c m d ts us w hI hJ
def RetVl (w : World) (ts : List (Int × Bool)) (n : Nat) (e : Ending) (w' : World) : Prop := ∃ A c, e = .returned (.slice A n c) ∧ Own w w' (.slice A n c) (vls ts n)
theorem valuesOf_n (A : Option Addr) (n c : Nat) (ts : List (Int × Bool)) (w : World) (hI : Thr w A n ts) (hn : n ≤ 1000) :
    Calls Tryz.prog 108 #[.slice A n c] w (RetVl w ts n) :=
  (valuesOf_any A n c ts w hI hn).mono fun _ _ ⟨A1, c1, h1, h2⟩ => by rw [vls_len] at h1 h2; exact ⟨A1, c1, h1, h2⟩
set_option maxHeartbeats 4000000 in
theorem implApartOf_any (A B : Option Addr) (n c d : Nat) (ts us : List (Int × Bool)) (w : World) (hI : Thr w A n ts) (hJ : Thr w B n us) (hV : vpas ts us = true) (hn : n ≤ 8) :
    Calls Tryz.prog 72 #[.agg #[.slice A n c, .slice B n d]] w (RetAp w ts us n) := by
  have HB : Hid (w.heap.size < (w.alloc (.cells #[.slice A n c, .slice B n d] 37)).heap.size) := by show _ < _; simp
  have hla := pbs_none ts n
  have hlb := pbs_none us n
  have hpa := pbs_len ts n
  have hpb := pbs_len us n
  have HLA := Lib.hid hla
  have HLB := Lib.hid hlb
  clear hla hlb
  go_enter Tryz.func72, Tryz.ntmps72
  go_wp2_with fail
  (with_reducible refine (ValidPassing_is A B n c n d ts us _ hV _ (hI.ext (by with_reducible (repeat (first | exact Ext.refl _ | apply Ext.drewN | apply Ext.drew | apply Ext.alloc | (refine Ext.set ?_ (by first | (simp; done) | (simp; omega) | omega) _) | (refine Ext.trans ?_ (by assumption)))))) (hJ.ext (by with_reducible (repeat (first | exact Ext.refl _ | apply Ext.drewN | apply Ext.drew | apply Ext.alloc | (refine Ext.set ?_ (by first | (simp; done) | (simp; omega) | omega) _) | (refine Ext.trans ?_ (by assumption))))))).mono ?_)
  rintro e w1 ⟨rfl, hx⟩
  have hE : Ext w w1 := Ext.trans (by with_reducible (repeat (first | exact Ext.refl _ | apply Ext.drewN | apply Ext.drew | apply Ext.alloc | (refine Ext.set ?_ (by first | (simp; done) | (simp; omega) | omega) _) | (refine Ext.trans ?_ (by assumption))))) hx
  have z1 : w.heap.size < w1.heap.size := by have := hx.size; have := HB.out; omega
  have b1 : w1.cell? ⟨w.heap.size, 0, none⟩ = some (.slice A n c) := hx.cell HB.out (by go_simp)
  have b2 : w1.cell? ⟨w.heap.size, 1, none⟩ = some (.slice B n d) := hx.cell HB.out (by go_simp)
  clear hx HB
  have hI1 := hI.ext hE
  have hJ1 := hJ.ext hE
  clear hI hJ
  go_wp2
  go_region_held3 (fun wz => wz.cell? ⟨w.heap.size, 0, none⟩ = some (.slice A n c) ∧ wz.cell? ⟨w.heap.size, 1, none⟩ = some (.slice B n d)) (go_keep) (first | (go_at_call 107; (with_reducible refine (passBeats_any A n c ts _ (hI1.ext (by with_reducible (repeat (first | exact Ext.refl _ | apply Ext.drewN | apply Ext.drew | apply Ext.alloc | (refine Ext.set ?_ (by first | (simp; done) | (simp; omega) | omega) _) | (refine Ext.trans ?_ (by assumption)))))) (by omega)).mono ?_); rintro e w3 ⟨Pw3, ew3, rfl, hOw3⟩; have hxw3 := hOw3.ext; have hzw3 := hxw3.size; (try simp at hzw3); have qw30 : w.heap.size < w3.heap.size := Nat.lt_of_lt_of_le (by first | (simp; done) | (simp; omega) | omega) hxw3.size; have cw300 : w3.cell? ⟨w.heap.size, 0, none⟩ = some (.slice A n c) := hxw3.cell (by first | (simp; done) | (simp; omega) | omega) (by go_simp); have cw301 : w3.cell? ⟨w.heap.size, 1, none⟩ = some (.slice B n d) := hxw3.cell (by first | (simp; done) | (simp; omega) | omega) (by go_simp)) | (go_at_call 107; (with_reducible refine (passBeats_any B n d us _ (hJ1.ext (by with_reducible (repeat (first | exact Ext.refl _ | apply Ext.drewN | apply Ext.drew | apply Ext.alloc | (refine Ext.set ?_ (by first | (simp; done) | (simp; omega) | omega) _) | (refine Ext.trans ?_ (by assumption)))))) (by omega)).mono ?_); rintro e w4 ⟨Pw4, ew4, rfl, hOw4⟩; have hxw4 := hOw4.ext; have hzw4 := hxw4.size; (try simp at hzw4); have qw40 : w.heap.size < w4.heap.size := Nat.lt_of_lt_of_le (by first | (simp; done) | (simp; omega) | omega) hxw4.size; have cw400 : w4.cell? ⟨w.heap.size, 0, none⟩ = some (.slice A n c) := hxw4.cell (by first | (simp; done) | (simp; omega) | omega) (by go_simp); have cw401 : w4.cell? ⟨w.heap.size, 1, none⟩ = some (.slice B n d) := hxw4.cell (by first | (simp; done) | (simp; omega) | omega) (by go_simp)))
  have hE4 : Ext w1 w4 := Ext.trans (Ext.trans (by with_reducible (repeat (first | exact Ext.refl _ | apply Ext.drewN | apply Ext.drew | apply Ext.alloc | (refine Ext.set ?_ (by first | (simp; done) | (simp; omega) | omega) _) | (refine Ext.trans ?_ (by assumption))))) hxw3) hxw4
  have hE5 := hE.trans hE4
  have z4 : w.heap.size < w4.heap.size := by omega
  clear hOw3 hOw4 hxw3 hxw4
  by_cases hno : NoP ts n ∧ NoP us n
  · have ha : (pbs ts n).length = 0 := HLA.out.2 hno.1
    have hb : (pbs us n).length = 0 := HLB.out.2 hno.2
    rw [ha, hb] at *
    have hI4 := hI1.ext hE4
    have hJ4 := hJ1.ext hE4
    have HNO := Lib.hid hno
    clear hno hI1 hJ1
    go_wp2
    go_region_held3 (fun wz => wz.cell? ⟨w.heap.size, 0, none⟩ = some (.slice A n c) ∧ wz.cell? ⟨w.heap.size, 1, none⟩ = some (.slice B n d)) (go_keep) (first | (go_at_call 108; (with_reducible refine (valuesOf_n A n c ts _ (hI4.ext (by with_reducible (repeat (first | exact Ext.refl _ | apply Ext.drewN | apply Ext.drew | apply Ext.alloc | (refine Ext.set ?_ (by first | (simp; done) | (simp; omega) | omega) _) | (refine Ext.trans ?_ (by assumption)))))) (by omega)).mono ?_); rintro e w5 ⟨Pw5, ew5, rfl, hOw5⟩; have hxw5 := hOw5.ext; have hzw5 := hxw5.size; (try simp at hzw5); have qw50 : w.heap.size < w5.heap.size := Nat.lt_of_lt_of_le (by first | (simp; done) | (simp; omega) | omega) hxw5.size; have cw500 : w5.cell? ⟨w.heap.size, 0, none⟩ = some (.slice A n c) := hxw5.cell (by first | (simp; done) | (simp; omega) | omega) (by go_simp); have cw501 : w5.cell? ⟨w.heap.size, 1, none⟩ = some (.slice B n d) := hxw5.cell (by first | (simp; done) | (simp; omega) | omega) (by go_simp)) | (go_at_call 108; (with_reducible refine (valuesOf_n B n d us _ (hJ4.ext (by with_reducible (repeat (first | exact Ext.refl _ | apply Ext.drewN | apply Ext.drew | apply Ext.alloc | (refine Ext.set ?_ (by first | (simp; done) | (simp; omega) | omega) _) | (refine Ext.trans ?_ (by assumption)))))) (by omega)).mono ?_); rintro e w6 ⟨Pw6, ew6, rfl, hOw6⟩; have hxw6 := hOw6.ext; have hzw6 := hxw6.size; (try simp at hzw6); have qw60 : w.heap.size < w6.heap.size := Nat.lt_of_lt_of_le (by first | (simp; done) | (simp; omega) | omega) hxw6.size; have cw600 : w6.cell? ⟨w.heap.size, 0, none⟩ = some (.slice A n c) := hxw6.cell (by first | (simp; done) | (simp; omega) | omega) (by go_simp); have cw601 : w6.cell? ⟨w.heap.size, 1, none⟩ = some (.slice B n d) := hxw6.cell (by first | (simp; done) | (simp; omega) | omega) (by go_simp)))
    have hE6 : Ext w4 w5 := Ext.trans (by with_reducible (repeat (first | exact Ext.refl _ | apply Ext.drewN | apply Ext.drew | apply Ext.alloc | (refine Ext.set ?_ (by first | (simp; done) | (simp; omega) | omega) _) | (refine Ext.trans ?_ (by assumption))))) hxw5
    have HT : Hid (RetAp w ts us n (.returned (.tuple #[.slice Pw5 n ew5, .slice Pw6 n ew6, .int .i64 0])) w6) :=
      .inl ⟨HNO.out.1, HNO.out.2, Pw5, ew5, Pw6, ew6, rfl, (hOw5.base2 (Ext.trans hE5 (by with_reducible (repeat (first | exact Ext.refl _ | apply Ext.drewN | apply Ext.drew | apply Ext.alloc | (refine Ext.set ?_ (by first | (simp; done) | (simp; omega) | omega) _) | (refine Ext.trans ?_ (by assumption))))))).trans (Ext.trans (by with_reducible (repeat (first | exact Ext.refl _ | apply Ext.drewN | apply Ext.drew | apply Ext.alloc | (refine Ext.set ?_ (by first | (simp; done) | (simp; omega) | omega) _) | (refine Ext.trans ?_ (by assumption))))) hxw6), hOw6.base2 (Ext.trans (Ext.trans hE5 hE6) (by with_reducible (repeat (first | exact Ext.refl _ | apply Ext.drewN | apply Ext.drew | apply Ext.alloc | (refine Ext.set ?_ (by first | (simp; done) | (simp; omega) | omega) _) | (refine Ext.trans ?_ (by assumption))))))⟩
    clear hOw5 hOw6
    go_wp2
    exact bodyPost_ret (v := .tuple #[.slice Pw5 n ew5, .slice Pw6 n ew6, .int .i64 0]) (by simp [results, Tryz.results72, go_sem, *]) rfl HT.out
  · have hs : 0 < (pbs ts n).length + (pbs us n).length := by
      rcases Nat.eq_zero_or_pos ((pbs ts n).length + (pbs us n).length) with h | h
      · exact absurd ⟨HLA.out.1 (by omega), HLB.out.1 (by omega)⟩ hno
      · exact h
    have HT : Hid (RetAp w ts us n (.returned (.tuple #[.slice none 0 0, .slice none 0 0, .int .i64 10])) w4) := .inr ⟨hno, rfl, hE5⟩
    have hsi : (0 : Int) < (((pbs ts n).length + (pbs us n).length : Nat) : Int) := by omega
    generalize (pbs ts n).length = x at *
    generalize (pbs us n).length = y at *
    have hw : IntKind.i64.wrap ((x : Int) + y) = (x : Int) + y := IntWalk.i64_in _ (by omega)
    have hsi2 : (0 : Int) < (x : Int) + y := by omega
    rw [hw]
    go_wp2
    exact bodyPost_ret (v := .tuple #[.slice none 0 0, .slice none 0 0, .int .i64 10]) (by simp [results, Tryz.results72, go_sem, *]) rfl HT.out
theorem l06Ok_is (g : Nat) (A B : Option Addr) (n c m d : Nat) (ts us : List (Int × Bool)) (v : Bool) (hv : vpas ts us = v) (w : World) (hb : PBox w g A n c B m d) (hI : Thr w A n ts) (hJ : Thr w B m us) :
    Calls Tryz.prog 49 #[.pointer (some ⟨g, 0, none⟩)] w fun e w' => e = .returned (.bool v) ∧ Ext w w' := by
  subst hv
  exact l06Ok_any g A B n c m d ts us w hb hI hJ
set_option maxHeartbeats 4000000 in
theorem specApartOf_any (A B : Option Addr) (n c d : Nat) (ts us : List (Int × Bool)) (w : World) (hI : Thr w A n ts) (hJ : Thr w B n us) (hV : vpas ts us = true) (hn : n ≤ 8) :
    Calls Tryz.prog 55 #[.agg #[.slice A n c, .slice B n d]] w (RetAp w ts us n) := by
  have HB : Hid (w.heap.size < (w.alloc (.cells #[.slice A n c, .slice B n d] 37)).heap.size) := by show _ < _; simp
  have HM : Hid (PBox (w.alloc (.cells #[.slice A n c, .slice B n d] 37)) w.heap.size A n c B n d) := ⟨HB.out, by go_simp, by go_simp⟩
  go_enter Tryz.func55, Tryz.ntmps55
  go_wp2_with fail
  (with_reducible refine (l06Ok_is w.heap.size A B n c n d ts us _ hV _ HM.out (hI.ext (by with_reducible (repeat (first | exact Ext.refl _ | apply Ext.drewN | apply Ext.drew | apply Ext.alloc | (refine Ext.set ?_ (by first | (simp; done) | (simp; omega) | omega) _) | (refine Ext.trans ?_ (by assumption)))))) (hJ.ext (by with_reducible (repeat (first | exact Ext.refl _ | apply Ext.drewN | apply Ext.drew | apply Ext.alloc | (refine Ext.set ?_ (by first | (simp; done) | (simp; omega) | omega) _) | (refine Ext.trans ?_ (by assumption))))))).mono ?_)
  rintro e w1 ⟨rfl, hx⟩
  have hE : Ext w w1 := Ext.trans (by with_reducible (repeat (first | exact Ext.refl _ | apply Ext.drewN | apply Ext.drew | apply Ext.alloc | (refine Ext.set ?_ (by first | (simp; done) | (simp; omega) | omega) _) | (refine Ext.trans ?_ (by assumption))))) hx
  have z1 : w.heap.size < w1.heap.size := by have := hx.size; have := HB.out; omega
  have b1 : w1.cell? ⟨w.heap.size, 0, none⟩ = some (.slice A n c) := hx.cell HB.out (by go_simp)
  have b2 : w1.cell? ⟨w.heap.size, 1, none⟩ = some (.slice B n d) := hx.cell HB.out (by go_simp)
  clear hx HB HM
  have hI1 := hI.ext hE
  have hJ1 := hJ.ext hE
  clear hI hJ
  go_wp2_with fail
  (with_reducible refine (l06Alone_any A n c ts _ hI1 (by omega)).mono ?_)
  intro e w2 hr2
  have HX : Hid (Ext w1 w2) := by
    rcases hr2 with ⟨_, _, _, _, h⟩ | ⟨_, _, h⟩
    · exact h.ext
    · exact h
  have hx2 := HX.out
  have z2 : w.heap.size < w2.heap.size := by have := hx2.size; omega
  have c1 := hx2.cell z1 b1
  have c2 := hx2.cell z1 b2
  have hE2 := hE.trans hx2
  have hJ2 := hJ1.ext hx2
  clear HX b1 b2 hJ1 hI1
  rcases hr2 with ⟨h1, A1, c1', rfl, hO1⟩ | ⟨h1, rfl, _⟩
  · have H1 := Lib.hid h1
    clear h1
    go_wp2_with fail
    (with_reducible refine (l06Alone_any B n d us _ hJ2 (by omega)).mono ?_)
    rintro e w3 (⟨h2, B1, d1', rfl, hO2⟩ | ⟨h2, rfl, hx3⟩)
    · have HT : Hid (RetAp w ts us n (.returned (.tuple #[.slice A1 n c1', .slice B1 n d1', .int .i64 0])) w3) := .inl ⟨H1.out, h2, A1, c1', B1, d1', rfl, (hO1.base2 hE).trans hO2.ext, hO2.base2 hE2⟩
      clear hO1 hO2 h2
      go_wp2
      exact bodyPost_ret (v := .tuple #[.slice A1 n c1', .slice B1 n d1', .int .i64 0]) (by simp [results, Tryz.results55, go_sem, *]) rfl HT.out
    · have HT : Hid (RetAp w ts us n (.returned (.tuple #[.slice none 0 0, .slice none 0 0, .int .i64 10])) w3) := .inr ⟨fun h => h2 h.2, rfl, hE2.trans hx3⟩
      clear hO1 h2
      go_wp2
      exact bodyPost_ret (v := .tuple #[.slice none 0 0, .slice none 0 0, .int .i64 10]) (by simp [results, Tryz.results55, go_sem, *]) rfl HT.out
  · have H1 := Lib.hid h1
    clear h1
    go_wp2_with fail
    (with_reducible refine (l06Alone_any B n d us _ hJ2 (by omega)).mono ?_)
    rintro e w3 (⟨h2, B1, d1', rfl, hO2⟩ | ⟨h2, rfl, hx3⟩)
    · have HT : Hid (RetAp w ts us n (.returned (.tuple #[.slice none 0 0, .slice none 0 0, .int .i64 10])) w3) := .inr ⟨fun h => H1.out h.1, rfl, hE2.trans hO2.ext⟩
      clear hO2 h2
      go_wp2
      exact bodyPost_ret (v := .tuple #[.slice none 0 0, .slice none 0 0, .int .i64 10]) (by simp [results, Tryz.results55, go_sem, *]) rfl HT.out
    · have HT : Hid (RetAp w ts us n (.returned (.tuple #[.slice none 0 0, .slice none 0 0, .int .i64 10])) w3) := .inr ⟨fun h => H1.out h.1, rfl, hE2.trans hx3⟩
      clear h2
      go_wp2
      exact bodyPost_ret (v := .tuple #[.slice none 0 0, .slice none 0 0, .int .i64 10]) (by simp [results, Tryz.results55, go_sem, *]) rfl HT.out
end Go.Proofs.YtohmnilkmljioaaGreat
