/- Pictures of throws with hands: contracts of l14Text of one hand, and of HandLadder. No condition but the stated bounds. -/
import Derived.Test.YtendemigegjbfaaLdo
import Derived.Test.YtendemigegjbfaaVhd
import Derived.Deep.RegionLaw
namespace Go.Proofs.Ytendemigegjbfaa
set_option linter.unusedVariables false
set_option linter.unusedSimpArgs false
open Go.RowKit Go.Joins

theorem RowG.raise {w : World} {lo hi hi' : Nat} {e : TypeId} {m : Nat} {A : Option Addr} {n c : Nat} {cs : List Value} (h : RowG w lo hi e m A n c cs) (k : hi ≤ hi') : RowG w lo hi' e m A n c cs := ⟨h.own, fun a ha => Nat.lt_of_lt_of_le (h.top a ha) k⟩
theorem RowG.stays {w w1 w' : World} {lo hi : Nat} {e : TypeId} {m : Nat} {A : Option Addr} {n c : Nat} {cs : List Value} (h : RowG w lo hi e m A n c cs) {v : Value} (hx : Ext w w1) (hg : w1.grownBy w' v.ownBlock) (hap : Apart lo hi v) : RowG w' lo hi e m A n c cs :=
  (h.ext hx).apart hg hap
/-- The letter of a hand. -/
def hlt (o : Nat) : ByteArray := ⟨#[UInt8.ofNat (97 + o)]⟩
theorem hltD : ∀ d : Fin 4, ((⟨#[97, 98, 99, 100]⟩ : ByteArray).extract d.val (d.val + 1)) = hlt d.val := by decide
theorem empty_add (s : ByteArray) : (⟨#[]⟩ : ByteArray) ++ s = s := by
  apply ByteArray.ext
  rw [ByteArray.data_append]
  simp
set_option maxHeartbeats 1000000 in
set_option maxRecDepth 100000 in
theorem l14Text_one (A : Option Addr) (c o : Nat) (w : World) (hI : Ints w A 1 [(o : Int)]) (ho : o < 4) :
    Calls Try.prog 59 #[.slice A 1 c] w fun e w' => e = .returned (.string (hlt o)) ∧ Qt w w' := by
  have hsl : ∀ wx : World, (Instr.slice 9 (.string ⟨#[97, 98, 99, 100]⟩) (some (.int .i64 (o : Int))) (some (.int .i64 ((o : Int) + 1))) none).run Try.prog wx = .ok (.string (hlt o)) wx := fun wx => by
    have h := run_slice_string (P := Try.prog) wx 9 ⟨#[97, 98, 99, 100]⟩ .i64 .i64 (o : Int) ((o : Int) + 1) Try.underlying9 (by omega) (by omega) (by show (o : Int) + 1 ≤ ((4 : Nat) : Int); omega)
    rw [show ((o : Int) + 1).toNat = o + 1 by omega, show (o : Int).toNat = o by omega, hltD ⟨o, ho⟩] at h
    exact h
  have hsz : (hlt o).size = 1 := rfl
  have HE := Lib.hid (empty_add (hlt o))
  obtain ⟨b, off, rfl, hb, hcell⟩ := hI.at_ (by omega)
  have hc := hcell 0 (by omega)
  rw [Nat.add_zero] at hc
  have hc2 : w.cell? ⟨b, off, none⟩ = some (.int .i64 o) := hc
  clear hcell hc
  have hw : IntKind.i64.wrap ((o : Int) + 1) = (o : Int) + 1 := IntWalk.i64_in _ (by omega)
  generalize hlt o = s at *
  go_enter Try.func59, Try.ntmps59
  go_wp2
  go_loopw [5, 4] (fun i v wr => Qt w wr ∧ (i = .int .i64 0 ∧ v = .string ⟨#[]⟩ ∨ i = .int .i64 1 ∧ v = .string s)) (fun i _ _ => 1 - (intOf i).toNat)
  case atStart => exact ⟨Qt.refl _, .inl ⟨rfl, rfl⟩⟩
  case round =>
    obtain ⟨⟨q, rfl⟩, ⟨rfl, rfl⟩ | ⟨rfl, rfl⟩⟩ := hrel
    · go_wp2
      go_quiet (fail)
      go_wp2
      go_roundw
      case rel => exact ⟨(by first | exact ⟨_, rfl⟩ | exact ⟨_, World.drewN_drewN _ _ _⟩), .inr ⟨rfl, by rw [HE.out]⟩⟩
      case measure => simp [intOf]
    · go_wp2
      go_ret
      exact ⟨rfl, (by first | exact ⟨_, rfl⟩ | exact ⟨_, World.drewN_drewN _ _ _⟩)⟩
/-- A line with the letter of its hand. -/
def hln (os : List Int) (h : Int → Int) (N b : Nat) : ByteArray := hlt (thAt os b).toNat ++ ⟨(lnb h b N).toArray⟩
def hll (os : List Int) (h : Int → Int) (N k : Nat) : List ByteArray := (List.range k).map (hln os h N)
theorem hll_succ (os : List Int) (h : Int → Int) (N k : Nat) : (hll os h N (k + 1)).map Value.string = (hll os h N k).map Value.string ++ [.string (hln os h N k)] := by simp [hll, List.range_succ]
theorem ldl_get (h : Int → Int) (N : Nat) {t k : Nat} (hk : k < t) : gs (ldl h N t) k = ⟨(lnb h k N).toArray⟩ := by simp [gs, ldl, hk]
theorem ldl_len (h : Int → Int) (N t : Nat) : (ldl h N t).length = t := by simp [ldl]
theorem line_sz (h : Int → Int) (k N : Nat) : (⟨(lnb h k N).toArray⟩ : ByteArray).size = N + 2 := by
  show (lnb h k N).toArray.size = _
  have := lnb_len h k N
  simpa using this
/-- The first k lines have letters. -/
def hlm (os : List Int) (h : Int → Int) (N t k : Nat) : List ByteArray := hll os h N k ++ (ldl h N t).drop k
theorem hlm_zero (os : List Int) (h : Int → Int) (N t : Nat) : hlm os h N t 0 = ldl h N t := by simp [hlm, hll]
theorem hlm_all (os : List Int) (h : Int → Int) (N t : Nat) : hlm os h N t t = hll os h N t := by simp [hlm, ldl]
theorem hlm_len (os : List Int) (h : Int → Int) (N : Nat) {t k : Nat} (hk : k ≤ t) : (hlm os h N t k).length = t := by simp [hlm, hll, ldl]; omega
theorem hlm_get (os : List Int) (h : Int → Int) (N : Nat) {t k : Nat} (hk : k < t) : (hlm os h N t k)[k]? = some ⟨(lnb h k N).toArray⟩ := by
  unfold hlm
  rw [List.getElem?_append_right (by simp [hll])]
  simp [hll, ldl, hk]
theorem hlm_set (os : List Int) (h : Int → Int) (N : Nat) {t k : Nat} (hk : k < t) : (hlm os h N t k).set k (hln os h N k) = hlm os h N t (k + 1) := by
  have e : hll os h N (k + 1) = hll os h N k ++ [hln os h N k] := by simp [hll, List.range_succ]
  have hl : (hll os h N k).length = k := by simp [hll]
  unfold hlm
  rw [e, List.set_append_right _ _ (by omega), hl, Nat.sub_self, List.drop_eq_getElem_cons (by rw [ldl_len]; exact hk), List.set_cons_zero, List.append_assoc]
  rfl
/-- The code of HandLadder. -/
def hlc (xs os : List Int) (t : Int) : Int := if vhd os = true then rcd xs t else 1
def hls (xs os : List Int) (t : Int) : List ByteArray := if hlc xs os t = 0 then hll os (thAt xs) (prp xs).toNat t.toNat else []
def hlk (xs os : List Int) (t : Int) : Nat := if hlc xs os t = 0 then t.toNat else 0
theorem hlc_zero {xs os : List Int} {t : Int} (h : hlc xs os t = 0) : vhd os = true ∧ rcd xs t = 0 := by
  unfold hlc at h
  split at h
  · rename_i h1; exact ⟨h1, h⟩
  · omega
theorem hls_bd (xs os : List Int) (t : Int) : hlk xs os t ≤ 1048576 ∧ ∀ s ∈ hls xs os t, s.size ≤ 9223372036854775807 := by
  unfold hlk hls
  split
  · rename_i hr
    obtain ⟨_, hr⟩ := hlc_zero hr
    obtain ⟨hv, ht⟩ := rcd_zero hr
    have := prp_bd hv
    refine ⟨by omega, fun s hs => ?_⟩
    simp only [hll, List.mem_map, List.mem_range] at hs
    obtain ⟨i, hi, rfl⟩ := hs
    unfold hln
    rw [ByteArray.size_append, line_sz]
    show 1 + _ ≤ _
    omega
  · exact ⟨by omega, by simp⟩
theorem rcd_vpat {xs : List Int} {t : Int} (h : vpat xs = false) : rcd xs t = 1 := by unfold rcd; rw [h]; rfl
set_option maxHeartbeats 4000000 in
set_option maxRecDepth 100000 in
theorem implHandLadder_yes (A B : Option Addr) (n c m d : Nat) (xs os : List Int) (t N : Nat) (w : World) (hI : Ints w A n xs) (hJ : Ints w B m os) (hr : hlc xs os t = 0) (hN : prp xs = N) :
    Calls Try.prog 24 #[.slice A n c, .slice B m d, .int .i64 t] w (RetSS w t (hll os (thAt xs) N t) 0) := by
  obtain ⟨ho, hr⟩ := hlc_zero hr
  obtain ⟨hv, ht0, ht⟩ := rcd_zero hr
  have HV := Lib.hid hv
  have HO := Lib.hid ho
  have HC := Lib.hid hr
  have hpb := prp_bd hv
  have HN := Lib.hid hN
  rw [hN] at hpb
  have HH : Hid (hcd xs os = 0) := by show _ = _; unfold hcd; rw [hv, ho]; rfl
  clear hr hv ho hN
  go_enter Try.func24, Try.ntmps24
  go_wp2_with (first | (go_at_call 56; (with_reducible refine (areHanded_yes _ _ _ _ _ _ xs os _ hI hJ HH.out).mono ?_); rintro e w1 ⟨rfl, hx1⟩) | (go_at_call 33; (with_reducible refine (rowsCode_is _ _ _ xs _ _ (hI.ext hx1) 0 HC).mono ?_); rintro e w2 ⟨rfl, hx2⟩) | (go_at_call 53; (with_reducible refine (ladder_any _ _ _ xs t N _ (hI.ext (by with_reducible (repeat (first | exact Ext.refl _ | apply Ext.drewN | apply Ext.drew | apply Ext.alloc | (refine Ext.set ?_ (by first | (simp; done) | (simp; omega) | omega) _) | (refine Ext.trans ?_ (by assumption)))))) HV.out (by omega) HN.out).mono ?_); rintro e w3 ⟨A1, c1, rfl, hl⟩))
  have hrow0 := hl.row
  have hs12 := hl.ext.size
  have hE0 : OwnG 9 1 w2 w3 (.slice (some ⟨w2.heap.size, 0, none⟩) 0 0) 0 [] := (ownG_empty (Ext.refl w2) _ _).trans hl.ext
  have hw3 : Ext w w2 := hx1.trans hx2
  simp at hrow0 hs12
  go_loopw [9, 27, 10, 11] (fun v i _ _ wr => ∃ k : Nat, k ≤ t ∧ i = .int .i64 k ∧ OwnG 9 1 w2 wr v k ((hll os (thAt xs) N k).map Value.string) ∧ Apart (w2.heap.size + 1) w3.heap.size v ∧ RowG wr (w2.heap.size + 1) w3.heap.size 9 1 A1 t c1 ((ldl (thAt xs) N t).map Value.string) ∧ w3.heap.size ≤ wr.heap.size) (fun _ i _ _ _ => t - (intOf i).toNat)
  case atStart => exact ⟨0, Nat.zero_le _, rfl, hE0, Apart.of_lt (by omega) _ _, hrow0, Nat.le_refl _⟩
  case round =>
    obtain ⟨k, hk, rfl, hown, hap, hrow, hhi⟩ := hrel
    by_cases hlt1 : k < t
    · have hxr := hown.ext
      have hJ2 := hrow.strs (by omega) (ldl_sz _ _ _ (by omega))
      obtain ⟨b, off, hA, hb, hcell⟩ := hJ2.at_ (by omega)
      have hc := hcell k hlt1
      rw [ldl_get (thAt xs) N hlt1] at hc
      have hlz := line_sz (thAt xs) k N
      subst hA
      clear hcell
      have hki : (k : Int) < t := by omega
      have hob := ord_bd HO.out (k : Int)
      obtain ⟨o, hoo⟩ : ∃ o : Nat, thAt os k = o := ⟨(thAt os k).toNat, by omega⟩
      have ho4 : o < 4 := by omega
      have HOO := Lib.hid hoo
      have HL := Lib.hid (hll_succ os (thAt xs) N k)
      have HLN : Hid (hln os (thAt xs) N k = hlt o ++ ⟨(lnb (thAt xs) k N).toArray⟩) := by show _ = _; unfold hln; rw [HOO.out]; rfl
      have hsz1 : (hlt o).size = 1 := rfl
      have hrn : ∀ W : World, (Go.convert 21 9 (.int .i32 (97 + (o : Int)))).run Try.prog W = .ok (.string (hlt o)) W := by
        intro W
        obtain rfl | rfl | rfl | rfl : o = 0 ∨ o = 1 ∨ o = 2 ∨ o = 3 := by omega
        all_goals rfl
      clear hoo hob
      generalize hlt o = s1 at *
      generalize (⟨(lnb (thAt xs) k N).toArray⟩ : ByteArray) = s2 at *
      go_wp2_with (first | (go_at_call 57; (with_reducible refine (handAt_any _ _ _ os _ _ (hJ.ext (hw3.trans hxr)) HO.out).mono ?_); rw [HOO.out]; rintro e w' ⟨rfl, rfl⟩) | (at_builtin; refine appGB elStr (by omega) rfl _ _ Try.underlying31 rfl rfl (hown.trans (by with_reducible (repeat (first | exact Ext.refl _ | apply Ext.drewN | apply Ext.drew | apply Ext.alloc | (refine Ext.set ?_ (by first | (simp; done) | (simp; omega) | omega) _) | (refine Ext.trans ?_ (by assumption)))))) hap (by simp; omega) (by omega) rfl (heap_alloc_new _ _) (ys := [.string (s1 ++ s2)]) (by rfl) (by rfl) (by simp [Value.oneCell']) ?_; intro v' w4 hown' hap' hg'))
      go_roundw
      case rel => exact ⟨k + 1, by omega, by go_num, by rw [HL.out, HLN.out]; exact hown', hap', hrow.stays ((Ext.refl _).alloc _) hg' hap, Nat.le_trans hhi (by have := hg'.size; simp at this; omega)⟩
      case measure => simp [intOf]; omega
    · obtain rfl : k = t := by omega
      obtain ⟨A3, c3, rfl⟩ := hown.forms
      have HT : Hid (RetSS w k (hll os (thAt xs) N k) 0 (.returned (.tuple #[.slice A3 k c3, .int .i64 0])) wr) := RetSS.of_own rfl (hown.rebase hw3)
      go_wp2
      go_ret2
      exact HT.out
theorem implHandLadder_ret (A : Option Addr) (n c : Nat) (xs : List Int) (B : Option Addr) (m d : Nat) (os : List Int) (t : Int) (w : World) (hI : Ints w A n xs) (hJ : Ints w B m os) :
    Calls Try.prog 24 #[.slice A n c, .slice B m d, .int .i64 t] w (RetSS w (hlk xs os t) (hls xs os t) (hlc xs os t)) := by
  unfold hlk hls
  by_cases hr : hlc xs os t = 0
  · rw [if_pos hr, if_pos hr]
    obtain ⟨ho, h1⟩ := hlc_zero hr
    obtain ⟨hv, ht0, ht⟩ := rcd_zero h1
    have hp := prp_bd hv
    obtain ⟨k, rfl⟩ : ∃ k : Nat, t = k := ⟨t.toNat, by omega⟩
    have := implHandLadder_yes A B n c m d xs os k (prp xs).toNat w hI hJ hr (by omega)
    rw [hr, Int.toNat_natCast]
    exact this
  · rw [if_neg hr, if_neg hr]
    have h0 : (hlc xs os t != 0) = true := by simpa using hr
    obtain ⟨r, hrr⟩ : ∃ r, hlc xs os t = r := ⟨_, rfl⟩
    have hcase : (r = 1 ∧ hcd xs os ≠ 0) ∨ (hcd xs os = 0 ∧ rcd xs t = r) := by
      cases ho : vhd os
      · refine .inl ⟨by rw [← hrr]; unfold hlc; rw [ho]; rfl, ?_⟩
        unfold hcd; rw [ho, Bool.and_false]; simp
      · cases hv : vpat xs
        · refine .inl ⟨by rw [← hrr]; unfold hlc; rw [ho, if_pos rfl, rcd_vpat hv], ?_⟩
          unfold hcd; rw [hv]; simp
        · refine .inr ⟨by unfold hcd; rw [hv, ho]; rfl, by rw [← hrr]; unfold hlc; rw [ho, if_pos rfl]⟩
    rw [hrr] at h0 hr ⊢
    have HR := Lib.hid hcase
    clear hcase hrr
    rcases HR.out with ⟨rfl, hh⟩ | ⟨hh, hc⟩
    · have HH := Lib.hid hh
      clear hh HR
      go_enter Try.func24, Try.ntmps24
      go_wp2_with (first | (go_at_call 56; (with_reducible refine (areHanded_no _ _ _ _ _ _ xs os _ hI hJ HH.out).mono ?_); rintro e w1 ⟨rfl, hx1⟩))
      go_ret2
      exact RetSS.of_nil rfl (by with_reducible (repeat (first | exact Ext.refl _ | apply Ext.drewN | apply Ext.drew | apply Ext.alloc | (refine Ext.set ?_ (by first | (simp; done) | (simp; omega) | omega) _) | (refine Ext.trans ?_ (by assumption)))))
    · have HH := Lib.hid hh
      have HC := Lib.hid hc
      clear hh hc HR
      go_enter Try.func24, Try.ntmps24
      go_wp2_with (first | (go_at_call 56; (with_reducible refine (areHanded_yes _ _ _ _ _ _ xs os _ hI hJ HH.out).mono ?_); rintro e w1 ⟨rfl, hx1⟩) | (go_at_call 33; (with_reducible refine (rowsCode_is _ _ _ xs _ _ (hI.ext hx1) r HC).mono ?_); rintro e w2 ⟨rfl, hx2⟩))
      go_ret2
      exact RetSS.of_nil rfl (by with_reducible (repeat (first | exact Ext.refl _ | apply Ext.drewN | apply Ext.drew | apply Ext.alloc | (refine Ext.set ?_ (by first | (simp; done) | (simp; omega) | omega) _) | (refine Ext.trans ?_ (by assumption)))))
theorem ints_one (w : World) (o : Int) (ho : -9223372036854775808 ≤ o ∧ o ≤ 9223372036854775807) : Ints (w.alloc (.cells #[.int .i64 o] 2)) (some ⟨w.heap.size, 0, none⟩) 1 [o] :=
  ⟨rfl, by omega, by intro x hx; simp at hx; omega, fun _ => ⟨_, 0, rfl, by simp, fun i hi => by
    obtain rfl : i = 0 := by omega
    exact (cell_of_block (heap_alloc_new _ _) 0).trans rfl⟩⟩
set_option maxHeartbeats 4000000 in
set_option maxRecDepth 100000 in
theorem specHandLadder_yes (A B : Option Addr) (n c m d : Nat) (xs os : List Int) (t N : Nat) (w : World) (hI : Ints w A n xs) (hJ : Ints w B m os) (hr : hlc xs os t = 0) (hN : prp xs = N) :
    Calls Try.prog 25 #[.slice A n c, .slice B m d, .int .i64 t] w (RetSS w t (hll os (thAt xs) N t) 0) := by
  obtain ⟨ho, hr⟩ := hlc_zero hr
  obtain ⟨hv, ht0, ht⟩ := rcd_zero hr
  have HV := Lib.hid hv
  have HO := Lib.hid ho
  have HC := Lib.hid hr
  have hpb := prp_bd hv
  have HN := Lib.hid hN
  rw [hN] at hpb
  clear hr hv ho hN
  go_enter Try.func25, Try.ntmps25
  go_wp2_with (first | (go_at_call 58; (with_reducible refine (l14Ok_is _ _ _ os _ hJ _ HO.out).mono ?_); rintro e w' ⟨rfl, rfl⟩) | (go_at_call 35; (with_reducible refine (l18Code_is _ _ _ xs _ _ hI 0 HC).mono ?_); rintro e w2 ⟨rfl, hx2⟩) | (go_at_call 54; (with_reducible refine (l18Lines_any _ _ _ xs t N _ (hI.ext hx2) HV.out (by omega) HN.out).mono ?_); rintro e w3 ⟨A1, c1, rfl, hl⟩))
  have hrow0 := hl.row
  have hx3 : Ext w w3 := hx2.trans hl.ext
  have hz2 := hx2.size
  go_loopw [10] (fun i wr => ∃ k : Nat, k ≤ t ∧ i = .int .i64 k ∧ RowG wr w2.heap.size w3.heap.size 9 1 A1 t c1 ((hlm os (thAt xs) N t k).map Value.string) ∧ Ext w wr ∧ w3.heap.size ≤ wr.heap.size) (fun i _ => t - (intOf i).toNat)
  case atStart => exact ⟨0, Nat.zero_le _, rfl, by rw [hlm_zero]; exact hrow0, hx3, Nat.le_refl _⟩
  case round =>
    obtain ⟨k, hk, rfl, hrow, hxr, hzr⟩ := hrel
    by_cases hlt1 : k < t
    · obtain ⟨g, hA, hg⟩ := hrow.form (by omega)
      have hlen := hrow.len
      have hgb := hrow.row_bd g (by rw [hA]; rfl)
      subst hA
      obtain ⟨hc, hf⟩ := hrow.cellAt (p := k) (by omega)
      rw [List.getElem?_map, hlm_get os (thAt xs) N hlt1] at hc
      have hc : wr.cell? ⟨g, k, none⟩ = some (.string ⟨(lnb (thAt xs) k N).toArray⟩) := hc
      have hlz := line_sz (thAt xs) k N
      have hki : (k : Int) < t := by omega
      have hob := ord_bd HO.out (k : Int)
      obtain ⟨o, hoo⟩ : ∃ o : Nat, thAt os k = o := ⟨(thAt os k).toNat, by omega⟩
      have ho4 : o < 4 := by omega
      have HOO := Lib.hid hoo
      have HS := Lib.hid (hlm_set os (thAt xs) N hlt1)
      have HLN : Hid (hln os (thAt xs) N k = hlt o ++ ⟨(lnb (thAt xs) k N).toArray⟩) := by show _ = _; unfold hln; rw [HOO.out]; rfl
      have hsz1 : (hlt o).size = 1 := rfl
      clear hoo hob
      generalize hs1 : hlt o = s1 at *
      have HS1 := Lib.hid hs1
      clear hs1
      generalize (⟨(lnb (thAt xs) k N).toArray⟩ : ByteArray) = s2 at *
      have hrow1 := Lib.hid hrow
      clear hrow
      go_wp2
      go_region_with (first | (go_at_call 60; (with_reducible refine (l14At_any _ _ _ os _ _ (hJ.ext (by with_reducible (repeat (first | exact Ext.refl _ | apply Ext.drewN | apply Ext.drew | apply Ext.alloc | (refine Ext.set ?_ (by first | (simp; done) | (simp; omega) | omega) _) | (refine Ext.trans ?_ (by assumption)))))) HO.out).mono ?_); rw [HOO.out]; rintro e w' ⟨rfl, rfl⟩) | (go_at_call 59; (with_reducible refine (l14Text_one _ _ o _ ((ints_one wr o (by omega)).ext (by with_reducible (repeat (first | exact Ext.refl _ | apply Ext.drewN | apply Ext.drew | apply Ext.alloc | (refine Ext.set ?_ (by first | (simp; done) | (simp; omega) | omega) _) | (refine Ext.trans ?_ (by assumption)))))) ho4).mono ?_); rw [HS1.out]; rintro e w' ⟨rfl, q, rfl⟩))
      all_goals
        go_wp2
        go_roundw
        case rel => exact ⟨k + 1, by omega, by go_num, by rw [← HS.out, List.map_set, HLN.out]; exact (hrow1.out.ext (by with_reducible (repeat (first | exact Ext.refl _ | apply Ext.drewN | apply Ext.drew | apply Ext.alloc | (refine Ext.set ?_ (by first | (simp; done) | (simp; omega) | omega) _) | (refine Ext.trans ?_ (by assumption)))))).store k _, Ext.set (Ext.drewN (hxr.alloc _) _) (by show w.heap.size ≤ g; omega) _, Nat.le_trans hzr (by simp [World.setCell])⟩
        case measure => simp [intOf]; omega
    · obtain rfl : k = t := by omega
      rw [hlm_all] at hrow
      have HT : Hid (RetSS w k (hll os (thAt xs) N k) 0 (.returned (.tuple #[.slice A1 k c1, .int .i64 0])) wr) := ⟨_, _, rfl, (hrow.lower hz2).raise hzr, hxr⟩
      go_wp2
      go_ret2
      exact HT.out
theorem specHandLadder_ret (A : Option Addr) (n c : Nat) (xs : List Int) (B : Option Addr) (m d : Nat) (os : List Int) (t : Int) (w : World) (hI : Ints w A n xs) (hJ : Ints w B m os) :
    Calls Try.prog 25 #[.slice A n c, .slice B m d, .int .i64 t] w (RetSS w (hlk xs os t) (hls xs os t) (hlc xs os t)) := by
  unfold hlk hls
  by_cases hr : hlc xs os t = 0
  · rw [if_pos hr, if_pos hr]
    obtain ⟨ho, h1⟩ := hlc_zero hr
    obtain ⟨hv, ht0, ht⟩ := rcd_zero h1
    have hp := prp_bd hv
    obtain ⟨k, rfl⟩ : ∃ k : Nat, t = k := ⟨t.toNat, by omega⟩
    have := specHandLadder_yes A B n c m d xs os k (prp xs).toNat w hI hJ hr (by omega)
    rw [hr, Int.toNat_natCast]
    exact this
  · rw [if_neg hr, if_neg hr]
    have h0 : (hlc xs os t != 0) = true := by simpa using hr
    cases ho : vhd os
    · have HR : Hid (hlc xs os t = 1) := by show _ = _; unfold hlc; rw [ho]; rfl
      have HO := Lib.hid ho
      rw [HR.out]
      clear ho h0 hr
      go_enter Try.func25, Try.ntmps25
      go_wp2_with (first | (go_at_call 58; (with_reducible refine (l14Ok_is _ _ _ os _ hJ _ HO.out).mono ?_); rintro e w' ⟨rfl, rfl⟩))
      go_ret2
      exact RetSS.of_nil rfl (Ext.refl _)
    · obtain ⟨r, hrr⟩ : ∃ r, hlc xs os t = r := ⟨_, rfl⟩
      have HC : Hid (rcd xs t = r) := by show _ = _; rw [← hrr]; unfold hlc; rw [ho, if_pos rfl]
      have HO := Lib.hid ho
      rw [hrr] at h0 ⊢
      clear ho hr hrr
      go_enter Try.func25, Try.ntmps25
      go_wp2_with (first | (go_at_call 58; (with_reducible refine (l14Ok_is _ _ _ os _ hJ _ HO.out).mono ?_); rintro e w' ⟨rfl, rfl⟩) | (go_at_call 35; (with_reducible refine (l18Code_is _ _ _ xs _ _ hI r HC).mono ?_); rintro e w2 ⟨rfl, hx2⟩))
      go_ret2
      exact RetSS.of_nil rfl hx2
end Go.Proofs.Ytendemigegjbfaa
