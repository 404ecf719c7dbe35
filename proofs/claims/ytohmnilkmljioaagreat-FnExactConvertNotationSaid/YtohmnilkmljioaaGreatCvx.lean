/- Cnw Cvi Cfr Cvs CvtB CvtW Cvo in one text (a claim has at most 60 files). No condition but the stated bounds. -/
import Derived.Test.YtohmnilkmljioaaGreatCpA
import Derived.Test.YtohmnilkmljioaaGreatCpB
import Derived.Test.YtohmnilkmljioaaGreatCqx
import Derived.Test.YtohmnilkmljioaaGreatSgn
import Derived.Test.YtohmnilkmljioaaGreatPux
import Derived.Test.YtohmnilkmljioaaGreatMlo
import Derived.Test.YtohmnilkmljioaaGreatTog
import Derived.Deep.RegionHeld3
namespace Go.Proofs.YtohmnilkmljioaaGreat
set_option linter.unusedVariables false
set_option linter.unusedSimpArgs false
open Go.ChangeShapes Go.WideShapes Go.ChangeAt Go.RowKit Go.Joins Go.Deep

def tJT : ByteArray := { data := #[106, 117, 103, 103, 108, 101, 114, 43, 116, 105, 109, 105, 110, 103] }
/-- What is lost in two steps, the second being that of synchronous patterns. -/
def jn (l : ByteArray) : ByteArray := if l = tJ then tJT else tT
def NDz : ND := ⟨0, [], [], [], [], []⟩
def NVz : NV := ⟨0, none, 0, 0, none, 0, 0, none, 0, 0, none, 0, 0, none, 0, 0⟩
/-- The notation of the kind q for a pattern. -/
def cnk (p : List Int) (l : ByteArray) (q : Int) : ND × ByteArray × Int :=
  if q = 1 then (⟨1, p, [], [], [], []⟩, l, 0)
  else if q = 2 then (⟨2, [], wrp p, [], [], []⟩, l, 0)
  else if q = 3 then (if (pup p).2 = 0 then (⟨3, [], [], (pup p).1, [], []⟩, jn l, 0) else (NDz, tz, (pup p).2))
  else (if p.length ≤ 8 then (⟨4, [], [], [], sf p, sf p⟩, l, 0) else (NDz, tz, 5))
/-- What ConvertNotation gives. -/
def cnv (D : ND) (q : Int) : ND × ByteArray × Int :=
  if vnt D = true then (if btw q 1 4 = true then (if D.k = q then (D, tz, 0) else (if (sgle D).2.2 = 0 then cnk (sgle D).1 (sgle D).2.1 q else (NDz, tz, (sgle D).2.2))) else (NDz, tz, 2)) else (NDz, tz, 1)
theorem sgle_lost {D : ND} (h : D.k ≠ 3) : (sgle D).2.1 = tz ∨ (sgle D).2.1 = tJ := by
  unfold sgle
  split
  · split
    · exact .inl rfl
    · exact .inl rfl
  · split
    · split
      · exact .inr rfl
      · exact .inr rfl
    · exact .inl rfl
theorem jn_z : jn tz = tT := if_neg (by decide)
theorem jn_j : jn tJ = tJT := if_pos rfl
/-- What hands back a notation, what is lost, and a code. -/
def RetCn (w : World) (r : ND × ByteArray × Int) (e : Ending) (w' : World) : Prop := ∃ V : NV, e = .returned (.tuple #[V.val, .string r.2.1, .int .i64 r.2.2]) ∧ NtO w' w.heap.size w'.heap.size V r.1 ∧ Ext w w'
theorem NtO.none (W : World) {lo hi : Nat} (h : lo ≤ hi) : NtO W lo hi NVz NDz :=
  ⟨rfl, lo, lo, lo, lo, lo, lo, lo, lo, ⟨by omega, by omega, by omega, by omega, by omega, by omega, by omega, by omega, by omega, by omega⟩, .inr ⟨rfl, rfl⟩, .inr ⟨rfl, rfl⟩, .inr ⟨rfl, rfl⟩, .inr ⟨rfl, rfl, rfl, rfl⟩⟩
/-- A result is stored and handed back. -/
theorem cn_done {w W : World} {g lo hi : Nat} {V : NV} {D : ND} (hs : Six W g) (h : NtO W lo hi V D) (hg : w.heap.size ≤ g) (hlo : g < lo) (hh : hi ≤ W.heap.size) (hX : Ext w W) (l : ByteArray) (c : Int) :
    NBox (sto W g V) g V ∧ RetCn w (D, l, c) (.returned (.tuple #[V.val, .string l, .int .i64 c])) (sto W g V) := by
  have hz := sto_size W g V
  exact ⟨sto_box hs V, V, rfl, (h.held (sto_kept W g V) (by omega)).wide (by omega) (by omega), sto_ext hX hg V⟩
theorem vpat_bd {xs : List Int} (h : vpat xs = true) : ∀ y ∈ xs, -9223372036854775808 ≤ y ∧ y ≤ 9223372036854775807 := fun y hy => by
  unfold vpat at h
  rw [Bool.and_eq_true, thr_iff] at h
  obtain ⟨i, hi, e⟩ := List.getElem_of_mem hy
  have := h.1.1 i hi
  rw [List.getElem?_eq_getElem hi] at this
  simp [e] at this
  omega
theorem vnt_split {D : ND} (h : vnt D = true) : (D.k = 1 ∨ D.p.length = 0) ∧ (D.k = 2 ∨ D.m.length = 0) ∧ (D.k = 3 ∨ D.s.length / 2 = 0) ∧ (D.k = 4 ∨ D.a.length + D.b.length = 0) := by
  unfold vnt at h
  rw [Bool.and_eq_true] at h
  exact of_decide_eq_true h.1
theorem vpat_len' {w : World} {A : Option Addr} {n : Nat} {xs : List Int} (hI : Ints w A n xs) (h : vpat xs = true) : n ≤ 12 := by have := vpat_len h; rw [hI.len] at this; exact this.2
theorem vmul_len' {w : World} {A : Option Addr} {n : Nat} {L : List (List Int)} (hI : Lists w A n L) (h : vmul L = true) : n ≤ 12 ∧ ∀ i, i < n → (ll L i).length ≤ 1000000 := by
  have h1 := vmul_len h
  have h2 := stks_iff (show stks L = true by unfold vmul at h; rw [Bool.and_eq_true] at h; exact h.1)
  rw [hI.len] at h1 h2
  exact ⟨h1.2, fun i hi => by have := (h2.2.2 i hi).2.1; omega⟩
theorem vsyn_len' {w : World} {A : Option Addr} {n : Nat} {ts : List (Int × Bool)} (hI : Syn w A n ts) (h : vsyn ts = true) : 1 ≤ n ∧ n ≤ 1000 := by have := vsyn_len h; have := hI.len; omega
theorem vpas_len' {w : World} {A B : Option Addr} {n m : Nat} {ts us : List (Int × Bool)} (hI : Thr w A n ts) (hJ : Thr w B m us) (h : vpas ts us = true) : (1 ≤ n ∧ n ≤ 8) ∧ (1 ≤ m ∧ m ≤ 8) := by have := vpas_len h; have := hI.len; have := hJ.len; omega
theorem copied_all (V : NV) (D : ND) (w : World) (hI : NtR w V D) (hV : vnt D = true) : Calls Tryz.prog 26 #[V.val] w (RetN w D) := by
  have h0 := vnt_split hV
  have hkd := vnt_kind hV
  obtain ⟨k, A, na, ca, B, nb, cb, S, ns, cs, P, np, cp, Q, nq, cq⟩ := V
  obtain ⟨kk, dp, dm, ds, da, db⟩ := D
  obtain ⟨hk, hp, hm, hs, ha, hb⟩ := hI
  dsimp only at *
  have lp := hp.len
  have lm := hm.len
  have ls := hs.len
  have la := ha.len
  have lb := hb.len
  clear hV
  subst hk
  rcases hkd with ⟨rfl, hv⟩ | ⟨rfl, hv⟩ | ⟨rfl, hv⟩ | ⟨rfl, hv⟩
  · skip
    have e_nb : nb = 0 := by omega
    subst e_nb
    have e_ns : ns = 0 := by omega
    subst e_ns
    have e_np : np = 0 := by omega
    subst e_np
    have e_nq : nq = 0 := by omega
    subst e_nq
    have e_dm : dm = [] := List.eq_nil_of_length_eq_zero (by omega)
    subst e_dm
    have e_ds : ds = [] := List.eq_nil_of_length_eq_zero (by omega)
    subst e_ds
    have e_da : da = [] := List.eq_nil_of_length_eq_zero (by omega)
    subst e_da
    have e_db : db = [] := List.eq_nil_of_length_eq_zero (by omega)
    subst e_db
    exact copied_k1 A B S P Q ca cb cs cp cq w na dp hp (vpat_len' hp hv)
  · skip
    have e_na : na = 0 := by omega
    subst e_na
    have e_ns : ns = 0 := by omega
    subst e_ns
    have e_np : np = 0 := by omega
    subst e_np
    have e_nq : nq = 0 := by omega
    subst e_nq
    have e_dp : dp = [] := List.eq_nil_of_length_eq_zero (by omega)
    subst e_dp
    have e_ds : ds = [] := List.eq_nil_of_length_eq_zero (by omega)
    subst e_ds
    have e_da : da = [] := List.eq_nil_of_length_eq_zero (by omega)
    subst e_da
    have e_db : db = [] := List.eq_nil_of_length_eq_zero (by omega)
    subst e_db
    exact copied_k2 A B S P Q ca cb cs cp cq w nb dm hm (vmul_len' hm hv).1 (vmul_len' hm hv).2
  · skip
    have e_na : na = 0 := by omega
    subst e_na
    have e_nb : nb = 0 := by omega
    subst e_nb
    have e_np : np = 0 := by omega
    subst e_np
    have e_nq : nq = 0 := by omega
    subst e_nq
    have e_dp : dp = [] := List.eq_nil_of_length_eq_zero (by omega)
    subst e_dp
    have e_dm : dm = [] := List.eq_nil_of_length_eq_zero (by omega)
    subst e_dm
    have e_da : da = [] := List.eq_nil_of_length_eq_zero (by omega)
    subst e_da
    have e_db : db = [] := List.eq_nil_of_length_eq_zero (by omega)
    subst e_db
    exact copied_k3 A B S P Q ca cb cs cp cq w ns ds hs (vsyn_len' hs hv)
  · skip
    have e_na : na = 0 := by omega
    subst e_na
    have e_nb : nb = 0 := by omega
    subst e_nb
    have e_ns : ns = 0 := by omega
    subst e_ns
    have e_dp : dp = [] := List.eq_nil_of_length_eq_zero (by omega)
    subst e_dp
    have e_dm : dm = [] := List.eq_nil_of_length_eq_zero (by omega)
    subst e_dm
    have e_ds : ds = [] := List.eq_nil_of_length_eq_zero (by omega)
    subst e_ds
    exact copied_k4 A B S P Q ca cb cs cp cq w np nq da db ha hb (vpas_len' ha hb hv).1 (vpas_len' ha hb hv).2
theorem l07Copy_all (g : Nat) (V : NV) (D : ND) (w : World) (hB : NBox w g V) (hI : NtR w V D) (hV : vnt D = true) : Calls Tryz.prog 17 #[.pointer (some ⟨g, 0, none⟩)] w (RetN w D) := by
  have h0 := vnt_split hV
  have hkd := vnt_kind hV
  obtain ⟨k, A, na, ca, B, nb, cb, S, ns, cs, P, np, cp, Q, nq, cq⟩ := V
  obtain ⟨kk, dp, dm, ds, da, db⟩ := D
  obtain ⟨hk, hp, hm, hs, ha, hb⟩ := hI
  dsimp only at *
  have lp := hp.len
  have lm := hm.len
  have ls := hs.len
  have la := ha.len
  have lb := hb.len
  clear hV
  subst hk
  rcases hkd with ⟨rfl, hv⟩ | ⟨rfl, hv⟩ | ⟨rfl, hv⟩ | ⟨rfl, hv⟩
  · skip
    have e_nb : nb = 0 := by omega
    subst e_nb
    have e_ns : ns = 0 := by omega
    subst e_ns
    have e_np : np = 0 := by omega
    subst e_np
    have e_nq : nq = 0 := by omega
    subst e_nq
    have e_dm : dm = [] := List.eq_nil_of_length_eq_zero (by omega)
    subst e_dm
    have e_ds : ds = [] := List.eq_nil_of_length_eq_zero (by omega)
    subst e_ds
    have e_da : da = [] := List.eq_nil_of_length_eq_zero (by omega)
    subst e_da
    have e_db : db = [] := List.eq_nil_of_length_eq_zero (by omega)
    subst e_db
    exact l07Copy_1 g 1 A B S P Q na ca 0 cb cs cp cq w dp [] hp hm (vpat_len' hp hv) (by omega) (fun i hi => absurd hi (by omega)) hB
  · skip
    have e_na : na = 0 := by omega
    subst e_na
    have e_ns : ns = 0 := by omega
    subst e_ns
    have e_np : np = 0 := by omega
    subst e_np
    have e_nq : nq = 0 := by omega
    subst e_nq
    have e_dp : dp = [] := List.eq_nil_of_length_eq_zero (by omega)
    subst e_dp
    have e_ds : ds = [] := List.eq_nil_of_length_eq_zero (by omega)
    subst e_ds
    have e_da : da = [] := List.eq_nil_of_length_eq_zero (by omega)
    subst e_da
    have e_db : db = [] := List.eq_nil_of_length_eq_zero (by omega)
    subst e_db
    exact l07Copy_1 g 2 A B S P Q 0 ca nb cb cs cp cq w [] dm hp hm (by omega) (vmul_len' hm hv).1 (vmul_len' hm hv).2 hB
  · skip
    have e_na : na = 0 := by omega
    subst e_na
    have e_nb : nb = 0 := by omega
    subst e_nb
    have e_np : np = 0 := by omega
    subst e_np
    have e_nq : nq = 0 := by omega
    subst e_nq
    have e_dp : dp = [] := List.eq_nil_of_length_eq_zero (by omega)
    subst e_dp
    have e_dm : dm = [] := List.eq_nil_of_length_eq_zero (by omega)
    subst e_dm
    have e_da : da = [] := List.eq_nil_of_length_eq_zero (by omega)
    subst e_da
    have e_db : db = [] := List.eq_nil_of_length_eq_zero (by omega)
    subst e_db
    exact l07Copy_2 g 3 A B S P Q 0 ca 0 cb cs cp cq w [] [] hp hm (by omega) (by omega) (fun i hi => absurd hi (by omega)) ns ds hs (vsyn_len' hs hv) hB
  · skip
    have e_na : na = 0 := by omega
    subst e_na
    have e_nb : nb = 0 := by omega
    subst e_nb
    have e_ns : ns = 0 := by omega
    subst e_ns
    have e_dp : dp = [] := List.eq_nil_of_length_eq_zero (by omega)
    subst e_dp
    have e_dm : dm = [] := List.eq_nil_of_length_eq_zero (by omega)
    subst e_dm
    have e_ds : ds = [] := List.eq_nil_of_length_eq_zero (by omega)
    subst e_ds
    exact l07Copy_3 g 4 A B S P Q 0 ca 0 cb cs cp cq w [] [] hp hm (by omega) (by omega) (fun i hi => absurd hi (by omega)) np nq da db ha hb (vpas_len' ha hb hv).1 (vpas_len' ha hb hv).2 hB
end Go.Proofs.YtohmnilkmljioaaGreat

namespace Go.Proofs.YtohmnilkmljioaaGreat
set_option linter.unusedVariables false
set_option linter.unusedSimpArgs false
open Go.ChangeShapes Go.WideShapes Go.ChangeAt Go.RowKit Go.Joins Go.Deep

theorem RetCn.ext {w W W' : World} {r : ND × ByteArray × Int} {e : Ending} (h : RetCn w r e W) (k : Ext W W') : RetCn w r e W' := by
  obtain ⟨V, h1, h2, h3⟩ := h
  exact ⟨V, h1, (h2.ext k).wide (Nat.le_refl _) k.size, h3.trans k⟩
theorem ValidNotation_x (k : Int) (A : Option Addr) (na ca : Nat) (B : Option Addr) (nb cb : Nat) (S : Option Addr) (ns cs : Nat) (P : Option Addr) (np cp : Nat) (Q : Option Addr) (nq cq : Nat) (D : ND) (v : Bool) (hv : vnt D = v) (w : World) (hI : NtR w (⟨k, A, na, ca, B, nb, cb, S, ns, cs, P, np, cp, Q, nq, cq⟩ : NV) D) (hS : np ≤ 1048576 ∧ nq ≤ 1048576) :
    Calls Tryz.prog 24 #[.agg #[.int .i64 k, .slice A na ca, .slice B nb cb, .slice S ns cs, .slice P np cp, .slice Q nq cq]] w (fun e w' => e = .returned (.bool v) ∧ Ext w w') := by
  subst hv
  exact ValidNotation_any (⟨k, A, na, ca, B, nb, cb, S, ns, cs, P, np, cp, Q, nq, cq⟩ : NV) D w hI hS
theorem copied_x (k : Int) (A : Option Addr) (na ca : Nat) (B : Option Addr) (nb cb : Nat) (S : Option Addr) (ns cs : Nat) (P : Option Addr) (np cp : Nat) (Q : Option Addr) (nq cq : Nat) (D : ND) (w : World) (hI : NtR w (⟨k, A, na, ca, B, nb, cb, S, ns, cs, P, np, cp, Q, nq, cq⟩ : NV) D) (hV : vnt D = true) :
    Calls Tryz.prog 26 #[.agg #[.int .i64 k, .slice A na ca, .slice B nb cb, .slice S ns cs, .slice P np cp, .slice Q nq cq]] w (RetN w D) := copied_all (⟨k, A, na, ca, B, nb, cb, S, ns, cs, P, np, cp, Q, nq, cq⟩ : NV) D w hI hV
theorem single_x (k : Int) (A : Option Addr) (na ca : Nat) (B : Option Addr) (nb cb : Nat) (S : Option Addr) (ns cs : Nat) (P : Option Addr) (np cp : Nat) (Q : Option Addr) (nq cq : Nat) (D : ND) (w : World) (hI : NtR w (⟨k, A, na, ca, B, nb, cb, S, ns, cs, P, np, cp, Q, nq, cq⟩ : NV) D) (hV : vnt D = true) :
    Calls Tryz.prog 27 #[.agg #[.int .i64 k, .slice A na ca, .slice B nb cb, .slice S ns cs, .slice P np cp, .slice Q nq cq]] w (RetSl w (sgle D)) := single_any (⟨k, A, na, ca, B, nb, cb, S, ns, cs, P, np, cp, Q, nq, cq⟩ : NV) D w hI hV
theorem joinLost_x (l : ByteArray) (h : l = tz ∨ l = tJ) (w : World) :
    Calls Tryz.prog 30 #[.string l, .string { data := #[116, 105, 109, 105, 110, 103] }] w fun e w' => e = .returned (.string (jn l)) ∧ Ext w w' := by
  rcases h with rfl | rfl
  · rw [jn_z]
    exact joinLost_none tT w
  · rw [jn_j]
    unfold tJ tJT
    go_enter Tryz.func30, Tryz.ntmps30
    go_wp2
    go_ret
    exact ⟨rfl, (by with_reducible (repeat (first | exact Ext.refl _ | apply Ext.drewN | apply Ext.drew | apply Ext.alloc | (refine Ext.set ?_ (by first | (simp; done) | (simp; omega) | omega) _) | (refine Ext.trans ?_ (by assumption)))))⟩
set_option maxRecDepth 100000 in
set_option maxHeartbeats 8000000 in
theorem implConvert_x (k : Int) (A : Option Addr) (na ca : Nat) (B : Option Addr) (nb cb : Nat) (S : Option Addr) (ns cs : Nat) (P : Option Addr) (np cp : Nat) (Q : Option Addr) (nq cq : Nat) (D : ND) (q : Int) (w : World) (hI : NtR w (⟨k, A, na, ca, B, nb, cb, S, ns, cs, P, np, cp, Q, nq, cq⟩ : NV) D) (hS : np ≤ 1048576 ∧ nq ≤ 1048576) :
    Calls Tryz.prog 7 #[.agg #[.int .i64 k, .slice A na ca, .slice B nb cb, .slice S ns cs, .slice P np cp, .slice Q nq cq], .int .i64 q] w (RetCn w (cnv D q)) := by
  have HK : Hid (k = D.k) := hI.k
  have hse : D.s.length = 2 * (D.s.length / 2) := by have := hI.s.len; omega
  have HSE := Lib.hid hse
  obtain ⟨r, hr⟩ : ∃ r, cnv D q = r := ⟨_, rfl⟩
  rw [hr]
  have HR := Lib.hid hr
  clear hr hse
  have HV0 : Hid (NBox ((w.alloc (.cells #[.int .i64 k, .slice A na ca, .slice B nb cb, .slice S ns cs, .slice P np cp, .slice Q nq cq] 39)).alloc (.cells #[.int .i64 0, .slice none 0 0, .slice none 0 0, .slice none 0 0, .slice none 0 0, .slice none 0 0] 39)) w.heap.size (⟨k, A, na, ca, B, nb, cb, S, ns, cs, P, np, cp, Q, nq, cq⟩ : NV)) := (NBox.new w (⟨k, A, na, ca, B, nb, cb, S, ns, cs, P, np, cp, Q, nq, cq⟩ : NV)).ext ((Ext.refl _).alloc _)
  have HR0 : Hid (Six ((w.alloc (.cells #[.int .i64 k, .slice A na ca, .slice B nb cb, .slice S ns cs, .slice P np cp, .slice Q nq cq] 39)).alloc (.cells #[.int .i64 0, .slice none 0 0, .slice none 0 0, .slice none 0 0, .slice none 0 0, .slice none 0 0] 39)) (w.heap.size + 1)) := by
    have := Six.new (w.alloc (.cells #[.int .i64 k, .slice A na ca, .slice B nb cb, .slice S ns cs, .slice P np cp, .slice Q nq cq] 39)) (.int .i64 0) (.slice none 0 0) (.slice none 0 0) (.slice none 0 0) (.slice none 0 0) (.slice none 0 0) 39
    rw [show (w.alloc (.cells #[.int .i64 k, .slice A na ca, .slice B nb cb, .slice S ns cs, .slice P np cp, .slice Q nq cq] 39)).heap.size = w.heap.size + 1 by simp] at this
    exact this
  have E0 : Ext w ((w.alloc (.cells #[.int .i64 k, .slice A na ca, .slice B nb cb, .slice S ns cs, .slice P np cp, .slice Q nq cq] 39)).alloc (.cells #[.int .i64 0, .slice none 0 0, .slice none 0 0, .slice none 0 0, .slice none 0 0, .slice none 0 0] 39)) := ((Ext.refl _).alloc _).alloc _
  cases hv : vnt D
  · have HF : Hid (r = (NDz, tz, 1)) := by show _ = _; rw [← HR.out]; unfold cnv; rw [hv]; rfl
    go_enter Tryz.func7, Tryz.ntmps7
    go_wp2_with fail
    (with_reducible refine (ValidNotation_x k A na ca B nb cb S ns cs P np cp Q nq cq D _ hv _ (hI.ext E0) hS).mono ?_)
    rintro e w1 ⟨rfl, hx1⟩
    have E1 := E0.trans hx1
    have HV1 := Lib.hid (HV0.out.ext hx1)
    have HR1 := Lib.hid (HR0.out.ext hx1)
    obtain ⟨l0, b0, b1, b2, b3, b4, b5⟩ := HV1.out
    dsimp only at b0 b1 b2 b3 b4 b5
    obtain ⟨y0, x0⟩ := HR1.out.c 0 (by omega)
    obtain ⟨y1, x1⟩ := HR1.out.c 1 (by omega)
    obtain ⟨y2, x2⟩ := HR1.out.c 2 (by omega)
    obtain ⟨y3, x3⟩ := HR1.out.c 3 (by omega)
    obtain ⟨y4, x4⟩ := HR1.out.c 4 (by omega)
    obtain ⟨y5, x5⟩ := HR1.out.c 5 (by omega)
    have xf := HR1.out.f
    have xl := HR1.out.lt
    have HD := Lib.hid (cn_done (w := w) HR1.out (NtO.none w1 (Nat.le_refl w1.heap.size)) (by omega) (by omega) (Nat.le_refl _) E1 tz 1)
    go_wp2
    refine bodyPost_ret (v := .tuple #[NVz.val, .string tz, .int .i64 1]) ?_ ?_ ?_
    · exact results_not3 Tryz.results7 rfl HD.out.1
    · rfl
    · rw [HF.out]
      exact HD.out.2
  · cases hb : btw q 1 4
    · have HF : Hid (r = (NDz, tz, 2)) := by show _ = _; rw [← HR.out]; unfold cnv; rw [if_pos hv, hb]; rfl
      go_enter Tryz.func7, Tryz.ntmps7
      go_wp2_with fail
      (with_reducible refine (ValidNotation_x k A na ca B nb cb S ns cs P np cp Q nq cq D _ hv _ (hI.ext E0) hS).mono ?_)
      rintro e w1 ⟨rfl, hx1⟩
      have E1 := E0.trans hx1
      have HV1 := Lib.hid (HV0.out.ext hx1)
      have HR1 := Lib.hid (HR0.out.ext hx1)
      obtain ⟨l0, b0, b1, b2, b3, b4, b5⟩ := HV1.out
      dsimp only at b0 b1 b2 b3 b4 b5
      obtain ⟨y0, x0⟩ := HR1.out.c 0 (by omega)
      obtain ⟨y1, x1⟩ := HR1.out.c 1 (by omega)
      obtain ⟨y2, x2⟩ := HR1.out.c 2 (by omega)
      obtain ⟨y3, x3⟩ := HR1.out.c 3 (by omega)
      obtain ⟨y4, x4⟩ := HR1.out.c 4 (by omega)
      obtain ⟨y5, x5⟩ := HR1.out.c 5 (by omega)
      have xf := HR1.out.f
      have xl := HR1.out.lt
      have HD := Lib.hid (cn_done (w := w) HR1.out (NtO.none w1 (Nat.le_refl w1.heap.size)) (by omega) (by omega) (Nat.le_refl _) E1 tz 2)
      go_wp2_with (go_at_call 25; (with_reducible refine (between_is _ _ _ _ hb _).mono ?_); rintro e w' ⟨rfl, rfl⟩)
      refine bodyPost_ret (v := .tuple #[NVz.val, .string tz, .int .i64 2]) ?_ ?_ ?_
      · exact results_not3 Tryz.results7 rfl HD.out.1
      · rfl
      · rw [HF.out]
        exact HD.out.2
    · by_cases hkq : k = q
      · have HF : Hid (r = (D, tz, 0)) := by show _ = _; rw [← HR.out]; unfold cnv; rw [if_pos hv, if_pos hb, if_pos (by have := HK.out; omega)]
        subst hkq
        clear HR
        go_enter Tryz.func7, Tryz.ntmps7
        go_wp2_with fail
        (with_reducible refine (ValidNotation_x k A na ca B nb cb S ns cs P np cp Q nq cq D _ hv _ (hI.ext E0) hS).mono ?_)
        rintro e w1 ⟨rfl, hx1⟩
        have E1 := E0.trans hx1
        have HV1 := Lib.hid (HV0.out.ext hx1)
        have HR1 := Lib.hid (HR0.out.ext hx1)
        obtain ⟨l0, b0, b1, b2, b3, b4, b5⟩ := HV1.out
        dsimp only at b0 b1 b2 b3 b4 b5
        obtain ⟨y0, x0⟩ := HR1.out.c 0 (by omega)
        obtain ⟨y1, x1⟩ := HR1.out.c 1 (by omega)
        obtain ⟨y2, x2⟩ := HR1.out.c 2 (by omega)
        obtain ⟨y3, x3⟩ := HR1.out.c 3 (by omega)
        obtain ⟨y4, x4⟩ := HR1.out.c 4 (by omega)
        obtain ⟨y5, x5⟩ := HR1.out.c 5 (by omega)
        have xf := HR1.out.f
        have xl := HR1.out.lt
        go_wp2_with (go_at_call 25; (with_reducible refine (between_is _ _ _ _ hb _).mono ?_); rintro e w' ⟨rfl, rfl⟩)
        (with_reducible refine (copied_x k A na ca B nb cb S ns cs P np cp Q nq cq D _ (hI.ext E1) hv).mono ?_)
        have hl1 : w.heap.size + 1 < w1.heap.size := HR1.out.lt
        rintro e w2 ⟨⟨k', A', na', ca', B', nb', cb', S', ns', cs', P', np', cp', Q', nq', cq'⟩, rfl, hO, hx2⟩
        have E2 := E1.trans hx2
        have hz2 := hx2.size
        have HV2 := Lib.hid (HV1.out.ext hx2)
        have HR2 := Lib.hid (HR1.out.ext hx2)
        clear b0 b1 b2 b3 b4 b5 x0 x1 x2 x3 x4 x5 xf xl
        obtain ⟨l0, b0, b1, b2, b3, b4, b5⟩ := HV2.out
        dsimp only at b0 b1 b2 b3 b4 b5
        obtain ⟨y0, x0⟩ := HR2.out.c 0 (by omega)
        obtain ⟨y1, x1⟩ := HR2.out.c 1 (by omega)
        obtain ⟨y2, x2⟩ := HR2.out.c 2 (by omega)
        obtain ⟨y3, x3⟩ := HR2.out.c 3 (by omega)
        obtain ⟨y4, x4⟩ := HR2.out.c 4 (by omega)
        obtain ⟨y5, x5⟩ := HR2.out.c 5 (by omega)
        have xf := HR2.out.f
        have xl := HR2.out.lt
        have HD := Lib.hid (cn_done (w := w) HR2.out hO (by omega) (by omega) (Nat.le_refl _) E2 tz 0)
        clear hO
        unfold NV.val
        dsimp only
        go_wp2
        refine bodyPost_ret (v := (.tuple #[(NV.mk k' A' na' ca' B' nb' cb' S' ns' cs' P' np' cp' Q' nq' cq').val, .string tz, .int .i64 0])) ?_ ?_ ?_
        · exact results_not3 Tryz.results7 rfl HD.out.1
        · rfl
        · rw [HF.out]
          exact HD.out.2
      · have HF : Hid (r = if (sgle D).2.2 = 0 then cnk (sgle D).1 (sgle D).2.1 q else (NDz, tz, (sgle D).2.2)) := by show _ = _; rw [← HR.out]; unfold cnv; rw [if_pos hv, if_pos hb, if_neg (by have := HK.out; omega)]
        have HVP : Hid ((sgle D).2.2 = 0 → vpat (sgle D).1 = true) := fun h => sgle_vpat hv HSE.out h
        have HLO : Hid (q = 3 → (sgle D).2.1 = tz ∨ (sgle D).2.1 = tJ) := fun h => sgle_lost (by have := HK.out; omega)
        clear HR
        go_enter Tryz.func7, Tryz.ntmps7
        go_wp2_with fail
        (with_reducible refine (ValidNotation_x k A na ca B nb cb S ns cs P np cp Q nq cq D _ hv _ (hI.ext E0) hS).mono ?_)
        rintro e w1 ⟨rfl, hx1⟩
        have E1 := E0.trans hx1
        have HV1 := Lib.hid (HV0.out.ext hx1)
        have HR1 := Lib.hid (HR0.out.ext hx1)
        obtain ⟨l0, b0, b1, b2, b3, b4, b5⟩ := HV1.out
        dsimp only at b0 b1 b2 b3 b4 b5
        obtain ⟨y0, x0⟩ := HR1.out.c 0 (by omega)
        obtain ⟨y1, x1⟩ := HR1.out.c 1 (by omega)
        obtain ⟨y2, x2⟩ := HR1.out.c 2 (by omega)
        obtain ⟨y3, x3⟩ := HR1.out.c 3 (by omega)
        obtain ⟨y4, x4⟩ := HR1.out.c 4 (by omega)
        obtain ⟨y5, x5⟩ := HR1.out.c 5 (by omega)
        have xf := HR1.out.f
        have xl := HR1.out.lt
        go_wp2_with (go_at_call 25; (with_reducible refine (between_is _ _ _ _ hb _).mono ?_); rintro e w' ⟨rfl, rfl⟩)
        (with_reducible refine (single_x k A na ca B nb cb S ns cs P np cp Q nq cq D _ (hI.ext E1) hv).mono ?_)
        intro e w2 hsl
        generalize sgle D = z at hsl HF HVP HLO
        obtain ⟨p, l, c⟩ := z
        dsimp only at hsl HF HVP HLO
        rcases hsl with ⟨hc, A1, c1, rfl, hO⟩ | ⟨hc, ⟨v, l', rfl⟩, hx2⟩
        · dsimp only at hc hO ⊢
          subst hc
          have HF2 : Hid (r = cnk p l q) := by show _ = _; rw [HF.out]; exact if_pos rfl
          have hvp := HVP.out rfl
          have hx2 := hO.ext
          have hz2 := hx2.size
          have E2 := E1.trans hx2
          have hl1 : w.heap.size + 1 < w1.heap.size := HR1.out.lt
          have hpl := vpat_len hvp
          obtain ⟨n, hn⟩ : ∃ n, p.length = n := ⟨_, rfl⟩
          rw [hn] at hO hpl ⊢
          have hbd := vpat_bd hvp
          have HIp : Hid (Ints w2 A1 n p) := hO.ints hn (by omega) hbd
          have HRW : Hid (Row w2 w1.heap.size w2.heap.size 2 1 A1 n c1 p) := Row.of_own hO hn
          have HNB := Lib.hid (NBox.new w2 (⟨q, none, 0, 0, none, 0, 0, none, 0, 0, none, 0, 0, none, 0, 0⟩ : NV))
          clear hO hbd
          have HV2 := Lib.hid (HV1.out.ext hx2)
          have HR2 := Lib.hid (HR1.out.ext hx2)
          clear b0 b1 b2 b3 b4 b5 x0 x1 x2 x3 x4 x5 xf xl
          obtain ⟨l0, b0, b1, b2, b3, b4, b5⟩ := HV2.out
          dsimp only at b0 b1 b2 b3 b4 b5
          obtain ⟨y0, x0⟩ := HR2.out.c 0 (by omega)
          obtain ⟨y1, x1⟩ := HR2.out.c 1 (by omega)
          obtain ⟨y2, x2⟩ := HR2.out.c 2 (by omega)
          obtain ⟨y3, x3⟩ := HR2.out.c 3 (by omega)
          obtain ⟨y4, x4⟩ := HR2.out.c 4 (by omega)
          obtain ⟨y5, x5⟩ := HR2.out.c 5 (by omega)
          have xf := HR2.out.f
          have xl := HR2.out.lt
          rcases (show q = 1 ∨ q = 2 ∨ q = 3 ∨ q = 4 by have := btw_iff.1 hb; omega) with rfl | rfl | rfl | rfl
          · have HF3 : Hid (r = (⟨1, p, [], [], [], []⟩, l, 0)) := HF2.out
            have HD := Lib.hid (cn_done (w := w) (V := ⟨1, A1, n, c1, none, 0, 0, none, 0, 0, none, 0, 0, none, 0, 0⟩) (D := ⟨1, p, [], [], [], []⟩) (lo := w1.heap.size) (hi := w2.heap.size) HR2.out ⟨rfl, w1.heap.size, w2.heap.size, w1.heap.size, w1.heap.size, w1.heap.size, w1.heap.size, w1.heap.size, w1.heap.size, ⟨by omega, by omega, by omega, by omega, by omega, by omega, by omega, by omega, by omega, by omega⟩, .inl HRW.out, .inr ⟨rfl, rfl⟩, .inr ⟨rfl, rfl⟩, .inr ⟨rfl, rfl, rfl, rfl⟩⟩ (by omega) hl1 (Nat.le_refl _) E2 l 0)
            go_wp2
            refine bodyPost_ret (v := .tuple #[(NV.mk 1 A1 n c1 none 0 0 none 0 0 none 0 0 none 0 0).val, .string l, .int .i64 0]) ?_ ?_ ?_
            · exact results_not3 Tryz.results7 rfl (HD.out.1.ext ((Ext.refl _).alloc (.cells #[.int .i64 1, .slice A1 n c1, .slice none 0 0, .slice none 0 0, .slice none 0 0, .slice none 0 0] 39)))
            · rfl
            · rw [HF3.out]
              exact (HD.out.2.ext ((Ext.refl _).alloc (.cells #[.int .i64 1, .slice A1 n c1, .slice none 0 0, .slice none 0 0, .slice none 0 0, .slice none 0 0] 39)))
          · have HF3 : Hid (r = (⟨2, [], wrp p, [], [], []⟩, l, 0)) := HF2.out
            go_wp2_with fail
            (with_reducible refine (MultiOf_any A1 n c1 p _ (HIp.out.ext ((Ext.refl _).alloc _)) hvp (by omega)).mono ?_)
            rintro e w4 ⟨C, d, rfl, hR, hx4⟩
            have HV4 := Lib.hid (HV2.out.ext (((Ext.refl _).alloc _).trans hx4))
            have HR4 := Lib.hid (HR2.out.ext (((Ext.refl _).alloc _).trans hx4))
            clear b0 b1 b2 b3 b4 b5 x0 x1 x2 x3 x4 x5 xf xl
            obtain ⟨l0, b0, b1, b2, b3, b4, b5⟩ := HV4.out
            dsimp only at b0 b1 b2 b3 b4 b5
            obtain ⟨y0, x0⟩ := HR4.out.c 0 (by omega)
            obtain ⟨y1, x1⟩ := HR4.out.c 1 (by omega)
            obtain ⟨y2, x2⟩ := HR4.out.c 2 (by omega)
            obtain ⟨y3, x3⟩ := HR4.out.c 3 (by omega)
            obtain ⟨y4, x4⟩ := HR4.out.c 4 (by omega)
            obtain ⟨y5, x5⟩ := HR4.out.c 5 (by omega)
            have xf := HR4.out.f
            have xl := HR4.out.lt
            have E4 := E2.trans (((Ext.refl _).alloc _).trans hx4)
            have hz4 := hx4.size
            (try simp at hz4)
            obtain ⟨lb, m0, m1, m2, m3, m4, m5⟩ := HNB.out.ext hx4
            dsimp only at m0 m1 m2 m3 m4 m5
            have mf := ((Six.new w2 _ _ _ _ _ _ 39).ext hx4).f
            have hR4 : LRow w4 (w2.heap.size + 1) w4.heap.size C n d (wrp p) := by simpa using hR
            have HD := Lib.hid (cn_done (w := w) (W := w4.setCell ⟨w2.heap.size, 2, none⟩ (.slice C n d)) (V := ⟨2, none, 0, 0, C, n, d, none, 0, 0, none, 0, 0, none, 0, 0⟩) (D := ⟨2, [], wrp p, [], [], []⟩) (lo := w2.heap.size + 1) (hi := w4.heap.size) (HR4.out.set _ _) ⟨rfl, w2.heap.size + 1, w2.heap.size + 1, w2.heap.size + 1, w4.heap.size, w2.heap.size + 1, w2.heap.size + 1, w2.heap.size + 1, w2.heap.size + 1, ⟨by omega, by omega, by omega, by omega, by omega, by omega, by omega, by omega, by omega, by omega⟩, .inr ⟨rfl, rfl⟩, .inl (hR4.far (.inl (by show w2.heap.size < _; omega)) _), .inr ⟨rfl, rfl⟩, .inr ⟨rfl, rfl, rfl, rfl⟩⟩ (by omega) (by omega) (by simp [World.setCell]) (E4.set (by show w.heap.size ≤ w2.heap.size; omega) _) l 0)
            clear hR hR4
            go_wp2
            refine bodyPost_ret (v := .tuple #[(NV.mk 2 none 0 0 C n d none 0 0 none 0 0 none 0 0).val, .string l, .int .i64 0]) ?_ ?_ ?_
            · exact results_not3 Tryz.results7 rfl HD.out.1
            · rfl
            · rw [HF3.out]
              exact HD.out.2
          · have HLX := Lib.hid (HLO.out rfl)
            go_wp2_with fail
            (with_reducible refine (implPairUp_any A1 n c1 p _ (HIp.out.ext ((Ext.refl _).alloc _)) hvp).mono ?_)
            rintro e w4 ⟨C, m, d, rfl, hR, hx4⟩
            have HF3 : Hid (r = if (pup p).2 = 0 then (⟨3, [], [], (pup p).1, [], []⟩, jn l, 0) else (NDz, tz, (pup p).2)) := HF2.out
            generalize pup p = z at HF3 hR ⊢
            obtain ⟨ts, rc⟩ := z
            dsimp only at HF3 hR ⊢
            have HV4 := Lib.hid (HV2.out.ext (((Ext.refl _).alloc _).trans hx4))
            have HR4 := Lib.hid (HR2.out.ext (((Ext.refl _).alloc _).trans hx4))
            clear b0 b1 b2 b3 b4 b5 x0 x1 x2 x3 x4 x5 xf xl
            obtain ⟨l0, b0, b1, b2, b3, b4, b5⟩ := HV4.out
            dsimp only at b0 b1 b2 b3 b4 b5
            obtain ⟨y0, x0⟩ := HR4.out.c 0 (by omega)
            obtain ⟨y1, x1⟩ := HR4.out.c 1 (by omega)
            obtain ⟨y2, x2⟩ := HR4.out.c 2 (by omega)
            obtain ⟨y3, x3⟩ := HR4.out.c 3 (by omega)
            obtain ⟨y4, x4⟩ := HR4.out.c 4 (by omega)
            obtain ⟨y5, x5⟩ := HR4.out.c 5 (by omega)
            have xf := HR4.out.f
            have xl := HR4.out.lt
            have E4 := E2.trans (((Ext.refl _).alloc _).trans hx4)
            have hz4 := hx4.size
            (try simp at hz4)
            obtain ⟨lb, m0, m1, m2, m3, m4, m5⟩ := HNB.out.ext hx4
            dsimp only at m0 m1 m2 m3 m4 m5
            have mf := ((Six.new w2 _ _ _ _ _ _ 39).ext hx4).f
            have hR4 : RowS w4 (w2.heap.size + 1) w4.heap.size C m d ts := by simpa using hR
            have HR4' := Lib.hid (hR4.far (p := ⟨w2.heap.size, 3, none⟩) (.inl (by show w2.heap.size < _; omega)) (.slice C m d))
            clear hR hR4
            have HB5 : Hid (NBox (w4.setCell ⟨w2.heap.size, 3, none⟩ (.slice C m d)) w2.heap.size (⟨3, none, 0, 0, none, 0, 0, C, m, d, none, 0, 0, none, 0, 0⟩ : NV)) := ⟨by simpa [World.setCell] using lb, cell_oth (off_ne (by omega)) m0, cell_oth (off_ne (by omega)) m1, cell_oth (off_ne (by omega)) m2, cell_same m3, cell_oth (off_ne (by omega)) m4, cell_oth (off_ne (by omega)) m5⟩
            have HV5 := Lib.hid (HV4.out.far (g' := w2.heap.size) (i := 3) (by omega) (.slice C m d))
            have HR5 := Lib.hid (HR4.out.set ⟨w2.heap.size, 3, none⟩ (.slice C m d))
            have E5 := E4.set (p := ⟨w2.heap.size, 3, none⟩) (by show w.heap.size ≤ w2.heap.size; omega) (.slice C m d)
            go_wp2_with fail
            (with_reducible refine (joinLost_x l HLX.out _).mono ?_)
            rintro e w6 ⟨rfl, hx6⟩
            have HV6 := Lib.hid (HV5.out.ext hx6)
            have HR6 := Lib.hid (HR5.out.ext hx6)
            clear b0 b1 b2 b3 b4 b5 x0 x1 x2 x3 x4 x5 xf xl
            obtain ⟨l0, b0, b1, b2, b3, b4, b5⟩ := HV6.out
            dsimp only at b0 b1 b2 b3 b4 b5
            obtain ⟨y0, x0⟩ := HR6.out.c 0 (by omega)
            obtain ⟨y1, x1⟩ := HR6.out.c 1 (by omega)
            obtain ⟨y2, x2⟩ := HR6.out.c 2 (by omega)
            obtain ⟨y3, x3⟩ := HR6.out.c 3 (by omega)
            obtain ⟨y4, x4⟩ := HR6.out.c 4 (by omega)
            obtain ⟨y5, x5⟩ := HR6.out.c 5 (by omega)
            have xf := HR6.out.f
            have xl := HR6.out.lt
            have E6 := E5.trans hx6
            obtain ⟨lb6, n0, n1, n2, n3, n4, n5⟩ := HB5.out.ext hx6
            dsimp only at n0 n1 n2 n3 n4 n5
            clear m0 m1 m2 m3 m4 m5 mf
            by_cases hrc : rc = 0
            · subst hrc
              have HF4 : Hid (r = (⟨3, [], [], ts, [], []⟩, jn l, 0)) := by show _ = _; rw [HF3.out]; exact if_pos rfl
              have hz6 : w4.heap.size ≤ w6.heap.size := by have := hx6.size; simpa [World.setCell] using this
              have HD := Lib.hid (cn_done (w := w) (V := ⟨3, none, 0, 0, none, 0, 0, C, m, d, none, 0, 0, none, 0, 0⟩) (D := ⟨3, [], [], ts, [], []⟩) (lo := w2.heap.size + 1) (hi := w4.heap.size) HR6.out ⟨rfl, w2.heap.size + 1, w2.heap.size + 1, w2.heap.size + 1, w2.heap.size + 1, w2.heap.size + 1, w4.heap.size, w2.heap.size + 1, w2.heap.size + 1, ⟨by omega, by omega, by omega, by omega, by omega, by omega, by omega, by omega, by omega, by omega⟩, .inr ⟨rfl, rfl⟩, .inr ⟨rfl, rfl⟩, .inl (HR4'.out.ext hx6), .inr ⟨rfl, rfl, rfl, rfl⟩⟩ (by omega) (by omega) hz6 E6 (jn l) 0)
              go_wp2
              refine bodyPost_ret (v := .tuple #[(NV.mk 3 none 0 0 none 0 0 C m d none 0 0 none 0 0).val, .string (jn l), .int .i64 0]) ?_ ?_ ?_
              · exact results_not3 Tryz.results7 rfl HD.out.1
              · rfl
              · rw [HF4.out]
                exact HD.out.2
            · have HF4 : Hid (r = (NDz, tz, rc)) := by show _ = _; rw [HF3.out]; exact if_neg hrc
              have HD := Lib.hid (cn_done (w := w) HR6.out (NtO.none w6 (Nat.le_refl w6.heap.size)) (by omega) (by omega) (Nat.le_refl _) E6 tz rc)
              go_wp2
              refine bodyPost_ret (v := .tuple #[NVz.val, .string tz, .int .i64 rc]) ?_ ?_ ?_
              · exact results_not3 Tryz.results7 rfl HD.out.1
              · rfl
              · rw [HF4.out]
                exact HD.out.2
          · by_cases h8 : n ≤ 8
            · have HF3 : Hid (r = (⟨4, [], [], [], sf p, sf p⟩, l, 0)) := by show _ = _; rw [HF2.out]; unfold cnk; exact (if_neg (by decide)).trans ((if_neg (by decide)).trans ((if_neg (by decide)).trans (if_pos (by omega))))
              go_wp2_with fail
              (with_reducible refine (implTogetherOf_any A1 A1 n c1 c1 p p _ (HIp.out.ext ((Ext.refl _).alloc _)) (HIp.out.ext ((Ext.refl _).alloc _)) (by omega) hvp hvp).mono ?_)
              rintro e w4 ⟨C, d, C', d', rfl, hR, hx4⟩
              have HV4 := Lib.hid (HV2.out.ext (((Ext.refl _).alloc _).trans hx4))
              have HR4 := Lib.hid (HR2.out.ext (((Ext.refl _).alloc _).trans hx4))
              clear b0 b1 b2 b3 b4 b5 x0 x1 x2 x3 x4 x5 xf xl
              obtain ⟨l0, b0, b1, b2, b3, b4, b5⟩ := HV4.out
              dsimp only at b0 b1 b2 b3 b4 b5
              obtain ⟨y0, x0⟩ := HR4.out.c 0 (by omega)
              obtain ⟨y1, x1⟩ := HR4.out.c 1 (by omega)
              obtain ⟨y2, x2⟩ := HR4.out.c 2 (by omega)
              obtain ⟨y3, x3⟩ := HR4.out.c 3 (by omega)
              obtain ⟨y4, x4⟩ := HR4.out.c 4 (by omega)
              obtain ⟨y5, x5⟩ := HR4.out.c 5 (by omega)
              have xf := HR4.out.f
              have xl := HR4.out.lt
              have E4 := E2.trans (((Ext.refl _).alloc _).trans hx4)
              have hz4 := hx4.size
              (try simp at hz4)
              obtain ⟨lb, m0, m1, m2, m3, m4, m5⟩ := HNB.out.ext hx4
              dsimp only at m0 m1 m2 m3 m4 m5
              have mf := ((Six.new w2 _ _ _ _ _ _ 39).ext hx4).f
              have hR4 : PassR w4 (w2.heap.size + 1) w4.heap.size C n d C' n d' (sf p) (sf p) := by simpa using hR
              have HD := Lib.hid (cn_done (w := w) (W := (w4.setCell ⟨w2.heap.size, 4, none⟩ (.slice C n d)).setCell ⟨w2.heap.size, 5, none⟩ (.slice C' n d')) (V := ⟨4, none, 0, 0, none, 0, 0, none, 0, 0, C, n, d, C', n, d'⟩) (D := ⟨4, [], [], [], sf p, sf p⟩) (lo := w2.heap.size + 1) (hi := w4.heap.size) ((HR4.out.set _ _).set _ _) ⟨rfl, w2.heap.size + 1, w2.heap.size + 1, w2.heap.size + 1, w2.heap.size + 1, w2.heap.size + 1, w2.heap.size + 1, w2.heap.size + 1, w4.heap.size, ⟨by omega, by omega, by omega, by omega, by omega, by omega, by omega, by omega, by omega, by omega⟩, .inr ⟨rfl, rfl⟩, .inr ⟨rfl, rfl⟩, .inr ⟨rfl, rfl⟩, .inl ((hR4.held (Kept.set (Kept.of_ext (Ext.refl _)) (lo := w2.heap.size) (hi := w2.heap.size + 1) (p := ⟨w2.heap.size, 4, none⟩) (by simp) (.slice C n d)) (by omega)).held (Kept.set (Kept.of_ext (Ext.refl _)) (lo := w2.heap.size) (hi := w2.heap.size + 1) (p := ⟨w2.heap.size, 5, none⟩) (by simp) (.slice C' n d')) (by omega))⟩ (by omega) (by omega) (by simp [World.setCell]) ((E4.set (by show w.heap.size ≤ w2.heap.size; omega) _).set (by show w.heap.size ≤ w2.heap.size; omega) _) l 0)
              clear hR hR4
              go_wp2
              refine bodyPost_ret (v := .tuple #[(NV.mk 4 none 0 0 none 0 0 none 0 0 C n d C' n d').val, .string l, .int .i64 0]) ?_ ?_ ?_
              · exact results_not3 Tryz.results7 rfl HD.out.1
              · rfl
              · rw [HF3.out]
                exact HD.out.2
            · have HF3 : Hid (r = (NDz, tz, 5)) := by show _ = _; rw [HF2.out]; unfold cnk; exact (if_neg (by decide)).trans ((if_neg (by decide)).trans ((if_neg (by decide)).trans (if_neg (by omega))))
              go_wp2_with fail
              (with_reducible refine (implTogetherOf_full A1 n c1 p _ (HIp.out.ext ((Ext.refl _).alloc _)) (by omega) hvp).mono ?_)
              rintro e w4 ⟨rfl, hx4⟩
              have HV4 := Lib.hid (HV2.out.ext (((Ext.refl _).alloc _).trans hx4))
              have HR4 := Lib.hid (HR2.out.ext (((Ext.refl _).alloc _).trans hx4))
              clear b0 b1 b2 b3 b4 b5 x0 x1 x2 x3 x4 x5 xf xl
              obtain ⟨l0, b0, b1, b2, b3, b4, b5⟩ := HV4.out
              dsimp only at b0 b1 b2 b3 b4 b5
              obtain ⟨y0, x0⟩ := HR4.out.c 0 (by omega)
              obtain ⟨y1, x1⟩ := HR4.out.c 1 (by omega)
              obtain ⟨y2, x2⟩ := HR4.out.c 2 (by omega)
              obtain ⟨y3, x3⟩ := HR4.out.c 3 (by omega)
              obtain ⟨y4, x4⟩ := HR4.out.c 4 (by omega)
              obtain ⟨y5, x5⟩ := HR4.out.c 5 (by omega)
              have xf := HR4.out.f
              have xl := HR4.out.lt
              have E4 := E2.trans (((Ext.refl _).alloc _).trans hx4)
              have hz4 := hx4.size
              (try simp at hz4)
              obtain ⟨lb, m0, m1, m2, m3, m4, m5⟩ := HNB.out.ext hx4
              dsimp only at m0 m1 m2 m3 m4 m5
              have mf := ((Six.new w2 _ _ _ _ _ _ 39).ext hx4).f
              have HD := Lib.hid (cn_done (w := w) (W := (w4.setCell ⟨w2.heap.size, 4, none⟩ (.slice none 0 0)).setCell ⟨w2.heap.size, 5, none⟩ (.slice none 0 0)) ((HR4.out.set _ _).set _ _) (NtO.none _ (Nat.le_refl w4.heap.size)) (by omega) (by omega) (by simp [World.setCell]) ((E4.set (by show w.heap.size ≤ w2.heap.size; omega) _).set (by show w.heap.size ≤ w2.heap.size; omega) _) tz 5)
              go_wp2
              refine bodyPost_ret (v := .tuple #[NVz.val, .string tz, .int .i64 5]) ?_ ?_ ?_
              · exact results_not3 Tryz.results7 rfl HD.out.1
              · rfl
              · rw [HF3.out]
                exact HD.out.2
        · dsimp only at hc ⊢
          have HF2 : Hid (r = (NDz, tz, c)) := by show _ = _; rw [HF.out]; exact if_neg hc
          have E2 := E1.trans hx2
          have hz2 := hx2.size
          have HV2 := Lib.hid (HV1.out.ext hx2)
          have HR2 := Lib.hid (HR1.out.ext hx2)
          clear b0 b1 b2 b3 b4 b5 x0 x1 x2 x3 x4 x5 xf xl
          obtain ⟨l0, b0, b1, b2, b3, b4, b5⟩ := HV2.out
          dsimp only at b0 b1 b2 b3 b4 b5
          obtain ⟨y0, x0⟩ := HR2.out.c 0 (by omega)
          obtain ⟨y1, x1⟩ := HR2.out.c 1 (by omega)
          obtain ⟨y2, x2⟩ := HR2.out.c 2 (by omega)
          obtain ⟨y3, x3⟩ := HR2.out.c 3 (by omega)
          obtain ⟨y4, x4⟩ := HR2.out.c 4 (by omega)
          obtain ⟨y5, x5⟩ := HR2.out.c 5 (by omega)
          have xf := HR2.out.f
          have xl := HR2.out.lt
          have HD := Lib.hid (cn_done (w := w) HR2.out (NtO.none w2 (Nat.le_refl w2.heap.size)) (by omega) (by omega) (Nat.le_refl _) E2 tz c)
          go_wp2
          refine bodyPost_ret (v := .tuple #[NVz.val, .string tz, .int .i64 c]) ?_ ?_ ?_
          · exact results_not3 Tryz.results7 rfl HD.out.1
          · rfl
          · rw [HF2.out]
            exact HD.out.2
end Go.Proofs.YtohmnilkmljioaaGreat

namespace Go.Proofs.YtohmnilkmljioaaGreat
set_option linter.unusedVariables false
set_option linter.unusedSimpArgs false
open Go.ChangeShapes Go.WideShapes Go.ChangeAt Go.RowKit Go.Joins Go.Deep

set_option maxHeartbeats 4000000 in
theorem from1 (A : Option Addr) (n c : Nat) (w : World) : Calls Tryz.prog 19 #[.slice A n c, .int .i64 1] w fun e w' => e = .returned (.tuple #[(NV.mk 1 A n c none 0 0 none 0 0 none 0 0 none 0 0).val, .string tz, .int .i64 0]) ∧ Ext w w' := by
  have HR0 : Hid (Six (w.alloc (.cells #[.int .i64 0, .slice none 0 0, .slice none 0 0, .slice none 0 0, .slice none 0 0, .slice none 0 0] 39)) w.heap.size) := Six.new w _ _ _ _ _ _ _
  go_enter Tryz.func19, Tryz.ntmps19
  go_wp2
  refine bodyPost_ret (v := .tuple #[(NV.mk 1 A n c none 0 0 none 0 0 none 0 0 none 0 0).val, .string tz, .int .i64 0]) ?_ ?_ ?_
  · exact results_not3 Tryz.results19 rfl ((NBox.new w (NV.mk 1 A n c none 0 0 none 0 0 none 0 0 none 0 0)).ext ((Ext.refl _).alloc (.cells #[.int .i64 1, .slice A n c, .slice none 0 0, .slice none 0 0, .slice none 0 0, .slice none 0 0] 39)))
  · rfl
  · exact ⟨rfl, (by with_reducible (repeat (first | exact Ext.refl _ | apply Ext.drewN | apply Ext.drew | apply Ext.alloc | (refine Ext.set ?_ (by first | (simp; done) | (simp; omega) | omega) _) | (refine Ext.trans ?_ (by assumption)))))⟩
set_option maxHeartbeats 4000000 in
theorem from2 (A : Option Addr) (n c : Nat) (p : List Int) (w : World) (hI : Ints w A n p) (hn : n ≤ 1000) : Calls Tryz.prog 19 #[.slice A n c, .int .i64 2] w (RetCn w (⟨2, [], wrp p, [], [], []⟩, tz, 0)) := by
  have HR0 : Hid (Six ((w.alloc (.cells #[.int .i64 0, .slice none 0 0, .slice none 0 0, .slice none 0 0, .slice none 0 0, .slice none 0 0] 39)).alloc (.cells #[.int .i64 2, .slice none 0 0, .slice none 0 0, .slice none 0 0, .slice none 0 0, .slice none 0 0] 39)) w.heap.size) := (Six.new w _ _ _ _ _ _ _).ext ((Ext.refl _).alloc _)
  have HB0 : Hid (NBox ((w.alloc (.cells #[.int .i64 0, .slice none 0 0, .slice none 0 0, .slice none 0 0, .slice none 0 0, .slice none 0 0] 39)).alloc (.cells #[.int .i64 2, .slice none 0 0, .slice none 0 0, .slice none 0 0, .slice none 0 0, .slice none 0 0] 39)) (w.heap.size + 1) (NV.mk 2 none 0 0 none 0 0 none 0 0 none 0 0 none 0 0)) := by
    have := NBox.new (w.alloc (.cells #[.int .i64 0, .slice none 0 0, .slice none 0 0, .slice none 0 0, .slice none 0 0, .slice none 0 0] 39)) (NV.mk 2 none 0 0 none 0 0 none 0 0 none 0 0 none 0 0)
    rw [show (w.alloc (.cells #[.int .i64 0, .slice none 0 0, .slice none 0 0, .slice none 0 0, .slice none 0 0, .slice none 0 0] 39)).heap.size = w.heap.size + 1 by simp] at this
    exact this
  have HS0 : Hid (Six ((w.alloc (.cells #[.int .i64 0, .slice none 0 0, .slice none 0 0, .slice none 0 0, .slice none 0 0, .slice none 0 0] 39)).alloc (.cells #[.int .i64 2, .slice none 0 0, .slice none 0 0, .slice none 0 0, .slice none 0 0, .slice none 0 0] 39)) (w.heap.size + 1)) := by
    have := Six.new (w.alloc (.cells #[.int .i64 0, .slice none 0 0, .slice none 0 0, .slice none 0 0, .slice none 0 0, .slice none 0 0] 39)) (.int .i64 2) (.slice none 0 0) (.slice none 0 0) (.slice none 0 0) (.slice none 0 0) (.slice none 0 0) 39
    rw [show (w.alloc (.cells #[.int .i64 0, .slice none 0 0, .slice none 0 0, .slice none 0 0, .slice none 0 0, .slice none 0 0] 39)).heap.size = w.heap.size + 1 by simp] at this
    exact this
  have E0 : Ext w ((w.alloc (.cells #[.int .i64 0, .slice none 0 0, .slice none 0 0, .slice none 0 0, .slice none 0 0, .slice none 0 0] 39)).alloc (.cells #[.int .i64 2, .slice none 0 0, .slice none 0 0, .slice none 0 0, .slice none 0 0, .slice none 0 0] 39)) := ((Ext.refl _).alloc _).alloc _
  go_enter Tryz.func19, Tryz.ntmps19
  go_wp2_with fail
  (with_reducible refine (l04Single_any A n c p _ (hI.ext E0) hn).mono ?_)
  rintro e w4 ⟨C, d, rfl, hR, hx4⟩
  have E4 := E0.trans hx4
  have hz4 := hx4.size
  (try simp at hz4)
  have HR4 := Lib.hid (HR0.out.ext hx4)
  obtain ⟨y0, x0⟩ := HR4.out.c 0 (by omega)
  obtain ⟨y1, x1⟩ := HR4.out.c 1 (by omega)
  obtain ⟨y2, x2⟩ := HR4.out.c 2 (by omega)
  obtain ⟨y3, x3⟩ := HR4.out.c 3 (by omega)
  obtain ⟨y4, x4⟩ := HR4.out.c 4 (by omega)
  obtain ⟨y5, x5⟩ := HR4.out.c 5 (by omega)
  have xf := HR4.out.f
  have xl := HR4.out.lt
  obtain ⟨lb, m0, m1, m2, m3, m4, m5⟩ := HB0.out.ext hx4
  dsimp only at m0 m1 m2 m3 m4 m5
  have mf := (HS0.out.ext hx4).f
  have hR4 : LRow w4 (w.heap.size + 2) w4.heap.size C n d (wrp p) := by simpa using hR
  have HD := Lib.hid (cn_done (w := w) (W := w4.setCell ⟨w.heap.size + 1, 2, none⟩ (.slice C n d)) (g := w.heap.size) (V := (NV.mk 2 none 0 0 C n d none 0 0 none 0 0 none 0 0)) (D := ⟨2, [], wrp p, [], [], []⟩) (lo := w.heap.size + 2) (hi := w4.heap.size) (HR4.out.set _ _) ⟨rfl, w.heap.size + 2, w.heap.size + 2, w.heap.size + 2, w4.heap.size, w.heap.size + 2, w.heap.size + 2, w.heap.size + 2, w.heap.size + 2, ⟨by omega, by omega, by omega, by omega, by omega, by omega, by omega, by omega, by omega, by omega⟩, .inr ⟨rfl, rfl⟩, .inl (hR4.far (.inl (by show w.heap.size + 1 < _; omega)) _), .inr ⟨rfl, rfl⟩, .inr ⟨rfl, rfl, rfl, rfl⟩⟩ (Nat.le_refl _) (by omega) (by simp [World.setCell]) (E4.set (by show w.heap.size ≤ w.heap.size + 1; omega) _) tz 0)
  clear hR hR4
  go_wp2
  refine bodyPost_ret (v := .tuple #[(NV.mk 2 none 0 0 C n d none 0 0 none 0 0 none 0 0).val, .string tz, .int .i64 0]) ?_ ?_ ?_
  · exact results_not3 Tryz.results19 rfl HD.out.1
  · rfl
  · exact HD.out.2
set_option maxHeartbeats 4000000 in
theorem from3 (A : Option Addr) (n c : Nat) (p : List Int) (w : World) (hI : Ints w A n p) (hv : vpat p = true) : Calls Tryz.prog 19 #[.slice A n c, .int .i64 3] w (RetCn w (⟨3, [], [], (pup p).1, [], []⟩, tT, (pup p).2)) := by
  have HR0 : Hid (Six ((w.alloc (.cells #[.int .i64 0, .slice none 0 0, .slice none 0 0, .slice none 0 0, .slice none 0 0, .slice none 0 0] 39)).alloc (.cells #[.int .i64 3, .slice none 0 0, .slice none 0 0, .slice none 0 0, .slice none 0 0, .slice none 0 0] 39)) w.heap.size) := (Six.new w _ _ _ _ _ _ _).ext ((Ext.refl _).alloc _)
  have HB0 : Hid (NBox ((w.alloc (.cells #[.int .i64 0, .slice none 0 0, .slice none 0 0, .slice none 0 0, .slice none 0 0, .slice none 0 0] 39)).alloc (.cells #[.int .i64 3, .slice none 0 0, .slice none 0 0, .slice none 0 0, .slice none 0 0, .slice none 0 0] 39)) (w.heap.size + 1) (NV.mk 3 none 0 0 none 0 0 none 0 0 none 0 0 none 0 0)) := by
    have := NBox.new (w.alloc (.cells #[.int .i64 0, .slice none 0 0, .slice none 0 0, .slice none 0 0, .slice none 0 0, .slice none 0 0] 39)) (NV.mk 3 none 0 0 none 0 0 none 0 0 none 0 0 none 0 0)
    rw [show (w.alloc (.cells #[.int .i64 0, .slice none 0 0, .slice none 0 0, .slice none 0 0, .slice none 0 0, .slice none 0 0] 39)).heap.size = w.heap.size + 1 by simp] at this
    exact this
  have HS0 : Hid (Six ((w.alloc (.cells #[.int .i64 0, .slice none 0 0, .slice none 0 0, .slice none 0 0, .slice none 0 0, .slice none 0 0] 39)).alloc (.cells #[.int .i64 3, .slice none 0 0, .slice none 0 0, .slice none 0 0, .slice none 0 0, .slice none 0 0] 39)) (w.heap.size + 1)) := by
    have := Six.new (w.alloc (.cells #[.int .i64 0, .slice none 0 0, .slice none 0 0, .slice none 0 0, .slice none 0 0, .slice none 0 0] 39)) (.int .i64 3) (.slice none 0 0) (.slice none 0 0) (.slice none 0 0) (.slice none 0 0) (.slice none 0 0) 39
    rw [show (w.alloc (.cells #[.int .i64 0, .slice none 0 0, .slice none 0 0, .slice none 0 0, .slice none 0 0, .slice none 0 0] 39)).heap.size = w.heap.size + 1 by simp] at this
    exact this
  have E0 : Ext w ((w.alloc (.cells #[.int .i64 0, .slice none 0 0, .slice none 0 0, .slice none 0 0, .slice none 0 0, .slice none 0 0] 39)).alloc (.cells #[.int .i64 3, .slice none 0 0, .slice none 0 0, .slice none 0 0, .slice none 0 0, .slice none 0 0] 39)) := ((Ext.refl _).alloc _).alloc _
  obtain ⟨z, hzz⟩ : ∃ z, pup p = z := ⟨_, rfl⟩
  have HZ := Lib.hid hzz
  rw [hzz]
  clear hzz
  go_enter Tryz.func19, Tryz.ntmps19
  go_wp2_with fail
  (with_reducible refine (specPairUp_any A n c p _ (hI.ext E0) hv).mono ?_)
  rw [HZ.out]
  rintro e w4 ⟨C, m, d, rfl, hR, hx4⟩
  have E4 := E0.trans hx4
  have hz4 := hx4.size
  (try simp at hz4)
  have HR4 := Lib.hid (HR0.out.ext hx4)
  obtain ⟨y0, x0⟩ := HR4.out.c 0 (by omega)
  obtain ⟨y1, x1⟩ := HR4.out.c 1 (by omega)
  obtain ⟨y2, x2⟩ := HR4.out.c 2 (by omega)
  obtain ⟨y3, x3⟩ := HR4.out.c 3 (by omega)
  obtain ⟨y4, x4⟩ := HR4.out.c 4 (by omega)
  obtain ⟨y5, x5⟩ := HR4.out.c 5 (by omega)
  have xf := HR4.out.f
  have xl := HR4.out.lt
  obtain ⟨lb, m0, m1, m2, m3, m4, m5⟩ := HB0.out.ext hx4
  dsimp only at m0 m1 m2 m3 m4 m5
  have mf := (HS0.out.ext hx4).f
  have hR4 : RowS w4 (w.heap.size + 2) w4.heap.size C m d z.1 := by simpa using hR
  have HD := Lib.hid (cn_done (w := w) (W := w4.setCell ⟨w.heap.size + 1, 3, none⟩ (.slice C m d)) (g := w.heap.size) (V := (NV.mk 3 none 0 0 none 0 0 C m d none 0 0 none 0 0)) (D := ⟨3, [], [], z.1, [], []⟩) (lo := w.heap.size + 2) (hi := w4.heap.size) (HR4.out.set _ _) ⟨rfl, w.heap.size + 2, w.heap.size + 2, w.heap.size + 2, w.heap.size + 2, w.heap.size + 2, w4.heap.size, w.heap.size + 2, w.heap.size + 2, ⟨by omega, by omega, by omega, by omega, by omega, by omega, by omega, by omega, by omega, by omega⟩, .inr ⟨rfl, rfl⟩, .inr ⟨rfl, rfl⟩, .inl (hR4.far (.inl (by show w.heap.size + 1 < _; omega)) _), .inr ⟨rfl, rfl, rfl, rfl⟩⟩ (Nat.le_refl _) (by omega) (by simp [World.setCell]) (E4.set (by show w.heap.size ≤ w.heap.size + 1; omega) _) tT z.2)
  clear hR hR4
  go_wp2
  refine bodyPost_ret (v := .tuple #[(NV.mk 3 none 0 0 none 0 0 C m d none 0 0 none 0 0).val, .string tT, .int .i64 z.2]) ?_ ?_ ?_
  · exact results_not3 Tryz.results19 rfl HD.out.1
  · rfl
  · exact HD.out.2
set_option maxHeartbeats 4000000 in
theorem from4 (A : Option Addr) (n c : Nat) (p : List Int) (w : World) (hI : Ints w A n p) (hv : vpat p = true) (hn : 1 ≤ n ∧ n ≤ 8) : Calls Tryz.prog 19 #[.slice A n c, .int .i64 4] w (RetCn w (⟨4, [], [], [], sf p, sf p⟩, tz, 0)) := by
  have HR0 : Hid (Six ((w.alloc (.cells #[.int .i64 0, .slice none 0 0, .slice none 0 0, .slice none 0 0, .slice none 0 0, .slice none 0 0] 39)).alloc (.cells #[.int .i64 4, .slice none 0 0, .slice none 0 0, .slice none 0 0, .slice none 0 0, .slice none 0 0] 39)) w.heap.size) := (Six.new w _ _ _ _ _ _ _).ext ((Ext.refl _).alloc _)
  have HB0 : Hid (NBox ((w.alloc (.cells #[.int .i64 0, .slice none 0 0, .slice none 0 0, .slice none 0 0, .slice none 0 0, .slice none 0 0] 39)).alloc (.cells #[.int .i64 4, .slice none 0 0, .slice none 0 0, .slice none 0 0, .slice none 0 0, .slice none 0 0] 39)) (w.heap.size + 1) (NV.mk 4 none 0 0 none 0 0 none 0 0 none 0 0 none 0 0)) := by
    have := NBox.new (w.alloc (.cells #[.int .i64 0, .slice none 0 0, .slice none 0 0, .slice none 0 0, .slice none 0 0, .slice none 0 0] 39)) (NV.mk 4 none 0 0 none 0 0 none 0 0 none 0 0 none 0 0)
    rw [show (w.alloc (.cells #[.int .i64 0, .slice none 0 0, .slice none 0 0, .slice none 0 0, .slice none 0 0, .slice none 0 0] 39)).heap.size = w.heap.size + 1 by simp] at this
    exact this
  have HS0 : Hid (Six ((w.alloc (.cells #[.int .i64 0, .slice none 0 0, .slice none 0 0, .slice none 0 0, .slice none 0 0, .slice none 0 0] 39)).alloc (.cells #[.int .i64 4, .slice none 0 0, .slice none 0 0, .slice none 0 0, .slice none 0 0, .slice none 0 0] 39)) (w.heap.size + 1)) := by
    have := Six.new (w.alloc (.cells #[.int .i64 0, .slice none 0 0, .slice none 0 0, .slice none 0 0, .slice none 0 0, .slice none 0 0] 39)) (.int .i64 4) (.slice none 0 0) (.slice none 0 0) (.slice none 0 0) (.slice none 0 0) (.slice none 0 0) 39
    rw [show (w.alloc (.cells #[.int .i64 0, .slice none 0 0, .slice none 0 0, .slice none 0 0, .slice none 0 0, .slice none 0 0] 39)).heap.size = w.heap.size + 1 by simp] at this
    exact this
  have E0 : Ext w ((w.alloc (.cells #[.int .i64 0, .slice none 0 0, .slice none 0 0, .slice none 0 0, .slice none 0 0, .slice none 0 0] 39)).alloc (.cells #[.int .i64 4, .slice none 0 0, .slice none 0 0, .slice none 0 0, .slice none 0 0, .slice none 0 0] 39)) := ((Ext.refl _).alloc _).alloc _
  go_enter Tryz.func19, Tryz.ntmps19
  go_wp2_with fail
  (with_reducible refine (TogetherOf_any A A n c c p p _ (hI.ext E0) (hI.ext E0) hn hv hv).mono ?_)
  rintro e w4 ⟨C, d, C', d', rfl, hR, hx4⟩
  have E4 := E0.trans hx4
  have hz4 := hx4.size
  (try simp at hz4)
  have HR4 := Lib.hid (HR0.out.ext hx4)
  obtain ⟨y0, x0⟩ := HR4.out.c 0 (by omega)
  obtain ⟨y1, x1⟩ := HR4.out.c 1 (by omega)
  obtain ⟨y2, x2⟩ := HR4.out.c 2 (by omega)
  obtain ⟨y3, x3⟩ := HR4.out.c 3 (by omega)
  obtain ⟨y4, x4⟩ := HR4.out.c 4 (by omega)
  obtain ⟨y5, x5⟩ := HR4.out.c 5 (by omega)
  have xf := HR4.out.f
  have xl := HR4.out.lt
  obtain ⟨lb, m0, m1, m2, m3, m4, m5⟩ := HB0.out.ext hx4
  dsimp only at m0 m1 m2 m3 m4 m5
  have mf := (HS0.out.ext hx4).f
  have hR4 : PassR w4 (w.heap.size + 2) w4.heap.size C n d C' n d' (sf p) (sf p) := by simpa using hR
  have HD := Lib.hid (cn_done (w := w) (W := (w4.setCell ⟨w.heap.size + 1, 4, none⟩ (.slice C n d)).setCell ⟨w.heap.size + 1, 5, none⟩ (.slice C' n d')) (g := w.heap.size) (V := (NV.mk 4 none 0 0 none 0 0 none 0 0 C n d C' n d')) (D := ⟨4, [], [], [], sf p, sf p⟩) (lo := w.heap.size + 2) (hi := w4.heap.size) ((HR4.out.set _ _).set _ _) ⟨rfl, w.heap.size + 2, w.heap.size + 2, w.heap.size + 2, w.heap.size + 2, w.heap.size + 2, w.heap.size + 2, w.heap.size + 2, w4.heap.size, ⟨by omega, by omega, by omega, by omega, by omega, by omega, by omega, by omega, by omega, by omega⟩, .inr ⟨rfl, rfl⟩, .inr ⟨rfl, rfl⟩, .inr ⟨rfl, rfl⟩, .inl ((hR4.held (Kept.set (Kept.of_ext (Ext.refl _)) (lo := w.heap.size + 1) (hi := w.heap.size + 2) (p := ⟨w.heap.size + 1, 4, none⟩) (by simp) (.slice C n d)) (by omega)).held (Kept.set (Kept.of_ext (Ext.refl _)) (lo := w.heap.size + 1) (hi := w.heap.size + 2) (p := ⟨w.heap.size + 1, 5, none⟩) (by simp) (.slice C' n d')) (by omega))⟩ (Nat.le_refl _) (by omega) (by simp [World.setCell]) ((E4.set (by show w.heap.size ≤ w.heap.size + 1; omega) _).set (by show w.heap.size ≤ w.heap.size + 1; omega) _) tz 0)
  clear hR hR4
  go_wp2
  refine bodyPost_ret (v := .tuple #[(NV.mk 4 none 0 0 none 0 0 none 0 0 C n d C' n d').val, .string tz, .int .i64 0]) ?_ ?_ ?_
  · exact results_not3 Tryz.results19 rfl (HD.out.1.ext ((Ext.refl _).alloc (.cells #[.slice C n d, .slice C' n d'] 37)))
  · rfl
  · exact (HD.out.2.ext ((Ext.refl _).alloc (.cells #[.slice C n d, .slice C' n d'] 37)))
set_option maxHeartbeats 4000000 in
theorem from4z (A : Option Addr) (n c : Nat) (p : List Int) (w : World) (hI : Ints w A n p) (hv : vpat p = true) (hn : 9 ≤ n ∧ n ≤ 12) : Calls Tryz.prog 19 #[.slice A n c, .int .i64 4] w (RetCn w (⟨4, [], [], [], [], []⟩, tz, 5)) := by
  have HR0 : Hid (Six ((w.alloc (.cells #[.int .i64 0, .slice none 0 0, .slice none 0 0, .slice none 0 0, .slice none 0 0, .slice none 0 0] 39)).alloc (.cells #[.int .i64 4, .slice none 0 0, .slice none 0 0, .slice none 0 0, .slice none 0 0, .slice none 0 0] 39)) w.heap.size) := (Six.new w _ _ _ _ _ _ _).ext ((Ext.refl _).alloc _)
  have HB0 : Hid (NBox ((w.alloc (.cells #[.int .i64 0, .slice none 0 0, .slice none 0 0, .slice none 0 0, .slice none 0 0, .slice none 0 0] 39)).alloc (.cells #[.int .i64 4, .slice none 0 0, .slice none 0 0, .slice none 0 0, .slice none 0 0, .slice none 0 0] 39)) (w.heap.size + 1) (NV.mk 4 none 0 0 none 0 0 none 0 0 none 0 0 none 0 0)) := by
    have := NBox.new (w.alloc (.cells #[.int .i64 0, .slice none 0 0, .slice none 0 0, .slice none 0 0, .slice none 0 0, .slice none 0 0] 39)) (NV.mk 4 none 0 0 none 0 0 none 0 0 none 0 0 none 0 0)
    rw [show (w.alloc (.cells #[.int .i64 0, .slice none 0 0, .slice none 0 0, .slice none 0 0, .slice none 0 0, .slice none 0 0] 39)).heap.size = w.heap.size + 1 by simp] at this
    exact this
  have HS0 : Hid (Six ((w.alloc (.cells #[.int .i64 0, .slice none 0 0, .slice none 0 0, .slice none 0 0, .slice none 0 0, .slice none 0 0] 39)).alloc (.cells #[.int .i64 4, .slice none 0 0, .slice none 0 0, .slice none 0 0, .slice none 0 0, .slice none 0 0] 39)) (w.heap.size + 1)) := by
    have := Six.new (w.alloc (.cells #[.int .i64 0, .slice none 0 0, .slice none 0 0, .slice none 0 0, .slice none 0 0, .slice none 0 0] 39)) (.int .i64 4) (.slice none 0 0) (.slice none 0 0) (.slice none 0 0) (.slice none 0 0) (.slice none 0 0) 39
    rw [show (w.alloc (.cells #[.int .i64 0, .slice none 0 0, .slice none 0 0, .slice none 0 0, .slice none 0 0, .slice none 0 0] 39)).heap.size = w.heap.size + 1 by simp] at this
    exact this
  have E0 : Ext w ((w.alloc (.cells #[.int .i64 0, .slice none 0 0, .slice none 0 0, .slice none 0 0, .slice none 0 0, .slice none 0 0] 39)).alloc (.cells #[.int .i64 4, .slice none 0 0, .slice none 0 0, .slice none 0 0, .slice none 0 0, .slice none 0 0] 39)) := ((Ext.refl _).alloc _).alloc _
  go_enter Tryz.func19, Tryz.ntmps19
  go_wp2_with fail
  (with_reducible refine (TogetherOf_full A n c p _ (hI.ext E0) hn hv).mono ?_)
  rintro e w4 ⟨rfl, hx4⟩
  have E4 := E0.trans hx4
  have hz4 := hx4.size
  (try simp at hz4)
  have HR4 := Lib.hid (HR0.out.ext hx4)
  obtain ⟨y0, x0⟩ := HR4.out.c 0 (by omega)
  obtain ⟨y1, x1⟩ := HR4.out.c 1 (by omega)
  obtain ⟨y2, x2⟩ := HR4.out.c 2 (by omega)
  obtain ⟨y3, x3⟩ := HR4.out.c 3 (by omega)
  obtain ⟨y4, x4⟩ := HR4.out.c 4 (by omega)
  obtain ⟨y5, x5⟩ := HR4.out.c 5 (by omega)
  have xf := HR4.out.f
  have xl := HR4.out.lt
  obtain ⟨lb, m0, m1, m2, m3, m4, m5⟩ := HB0.out.ext hx4
  dsimp only at m0 m1 m2 m3 m4 m5
  have mf := (HS0.out.ext hx4).f
  have HD := Lib.hid (cn_done (w := w) (W := (w4.setCell ⟨w.heap.size + 1, 4, none⟩ (.slice none 0 0)).setCell ⟨w.heap.size + 1, 5, none⟩ (.slice none 0 0)) (g := w.heap.size) (V := (NV.mk 4 none 0 0 none 0 0 none 0 0 none 0 0 none 0 0)) (D := ⟨4, [], [], [], [], []⟩) (lo := w.heap.size + 2) (hi := w4.heap.size) ((HR4.out.set _ _).set _ _) ⟨rfl, w.heap.size + 2, w.heap.size + 2, w.heap.size + 2, w.heap.size + 2, w.heap.size + 2, w.heap.size + 2, w.heap.size + 2, w4.heap.size, ⟨by omega, by omega, by omega, by omega, by omega, by omega, by omega, by omega, by omega, by omega⟩, .inr ⟨rfl, rfl⟩, .inr ⟨rfl, rfl⟩, .inr ⟨rfl, rfl⟩, .inr ⟨rfl, rfl, rfl, rfl⟩⟩ (Nat.le_refl _) (by omega) (by simp [World.setCell]) ((E4.set (by show w.heap.size ≤ w.heap.size + 1; omega) _).set (by show w.heap.size ≤ w.heap.size + 1; omega) _) tz 5)
  skip
  go_wp2
  refine bodyPost_ret (v := .tuple #[(NV.mk 4 none 0 0 none 0 0 none 0 0 none 0 0 none 0 0).val, .string tz, .int .i64 5]) ?_ ?_ ?_
  · exact results_not3 Tryz.results19 rfl (HD.out.1.ext ((Ext.refl _).alloc (.cells #[.slice none 0 0, .slice none 0 0] 37)))
  · rfl
  · exact (HD.out.2.ext ((Ext.refl _).alloc (.cells #[.slice none 0 0, .slice none 0 0] 37)))
end Go.Proofs.YtohmnilkmljioaaGreat

namespace Go.Proofs.YtohmnilkmljioaaGreat
set_option linter.unusedVariables false
set_option linter.unusedSimpArgs false
open Go.ChangeShapes Go.WideShapes Go.ChangeAt Go.RowKit Go.Joins Go.Deep

theorem sgle_l3 (D : ND) : (sgle D).2.1 = tz ∨ (sgle D).2.1 = tT ∨ (sgle D).2.1 = tJ := by
  by_cases h : D.k = 3
  · right; left
    unfold sgle
    rw [if_neg (by omega), if_pos h]
  · rcases sgle_lost h with h | h
    · exact .inl h
    · exact .inr (.inr h)
theorem l07Ok_is (g : Nat) (V : NV) (D : ND) (v : Bool) (hv : vnt D = v) (w : World) (hB : NBox w g V) (hI : NtR w V D) :
    Calls Tryz.prog 15 #[.pointer (some ⟨g, 0, none⟩)] w fun e w' => e = .returned (.bool v) ∧ Ext w w' := by
  subst hv
  exact l07Ok_any g V D w hB hI
set_option maxRecDepth 100000 in
set_option maxHeartbeats 16000000 in
theorem specConvert_x (k : Int) (A : Option Addr) (na ca : Nat) (B : Option Addr) (nb cb : Nat) (S : Option Addr) (ns cs : Nat) (P : Option Addr) (np cp : Nat) (Q : Option Addr) (nq cq : Nat) (D : ND) (q : Int) (w : World) (hI : NtR w (⟨k, A, na, ca, B, nb, cb, S, ns, cs, P, np, cp, Q, nq, cq⟩ : NV) D) :
    Calls Tryz.prog 5 #[.agg #[.int .i64 k, .slice A na ca, .slice B nb cb, .slice S ns cs, .slice P np cp, .slice Q nq cq], .int .i64 q] w (RetCn w (cnv D q)) := by
  have HK : Hid (k = D.k) := hI.k
  have hse : D.s.length = 2 * (D.s.length / 2) := by have := hI.s.len; omega
  have HSE := Lib.hid hse
  obtain ⟨r, hr⟩ : ∃ r, cnv D q = r := ⟨_, rfl⟩
  rw [hr]
  have HR := Lib.hid hr
  clear hr hse
  have HV0 : Hid (NBox ((w.alloc (.cells #[.int .i64 k, .slice A na ca, .slice B nb cb, .slice S ns cs, .slice P np cp, .slice Q nq cq] 39)).alloc (.cells #[.int .i64 0, .slice none 0 0, .slice none 0 0, .slice none 0 0, .slice none 0 0, .slice none 0 0] 39)) w.heap.size (⟨k, A, na, ca, B, nb, cb, S, ns, cs, P, np, cp, Q, nq, cq⟩ : NV)) := (NBox.new w (⟨k, A, na, ca, B, nb, cb, S, ns, cs, P, np, cp, Q, nq, cq⟩ : NV)).ext ((Ext.refl _).alloc _)
  have HR0 : Hid (Six ((w.alloc (.cells #[.int .i64 k, .slice A na ca, .slice B nb cb, .slice S ns cs, .slice P np cp, .slice Q nq cq] 39)).alloc (.cells #[.int .i64 0, .slice none 0 0, .slice none 0 0, .slice none 0 0, .slice none 0 0, .slice none 0 0] 39)) (w.heap.size + 1)) := by
    have := Six.new (w.alloc (.cells #[.int .i64 k, .slice A na ca, .slice B nb cb, .slice S ns cs, .slice P np cp, .slice Q nq cq] 39)) (.int .i64 0) (.slice none 0 0) (.slice none 0 0) (.slice none 0 0) (.slice none 0 0) (.slice none 0 0) 39
    rw [show (w.alloc (.cells #[.int .i64 k, .slice A na ca, .slice B nb cb, .slice S ns cs, .slice P np cp, .slice Q nq cq] 39)).heap.size = w.heap.size + 1 by simp] at this
    exact this
  have E0 : Ext w ((w.alloc (.cells #[.int .i64 k, .slice A na ca, .slice B nb cb, .slice S ns cs, .slice P np cp, .slice Q nq cq] 39)).alloc (.cells #[.int .i64 0, .slice none 0 0, .slice none 0 0, .slice none 0 0, .slice none 0 0, .slice none 0 0] 39)) := ((Ext.refl _).alloc _).alloc _
  cases hv : vnt D
  · have HF : Hid (r = (NDz, tz, 1)) := by show _ = _; rw [← HR.out]; unfold cnv; rw [hv]; rfl
    go_enter Tryz.func5, Tryz.ntmps5
    go_wp2_with fail
    (with_reducible refine (l07Ok_is w.heap.size (⟨k, A, na, ca, B, nb, cb, S, ns, cs, P, np, cp, Q, nq, cq⟩ : NV) D _ hv _ HV0.out (hI.ext E0)).mono ?_)
    rintro e w1 ⟨rfl, hx1⟩
    have E1 := E0.trans hx1
    have HV1 := Lib.hid (HV0.out.ext hx1)
    have HR1 := Lib.hid (HR0.out.ext hx1)
    obtain ⟨l0, b0, b1, b2, b3, b4, b5⟩ := HV1.out
    dsimp only at b0 b1 b2 b3 b4 b5
    obtain ⟨y0, x0⟩ := HR1.out.c 0 (by omega)
    obtain ⟨y1, x1⟩ := HR1.out.c 1 (by omega)
    obtain ⟨y2, x2⟩ := HR1.out.c 2 (by omega)
    obtain ⟨y3, x3⟩ := HR1.out.c 3 (by omega)
    obtain ⟨y4, x4⟩ := HR1.out.c 4 (by omega)
    obtain ⟨y5, x5⟩ := HR1.out.c 5 (by omega)
    have xf := HR1.out.f
    have xl := HR1.out.lt
    have HD := Lib.hid (cn_done (w := w) HR1.out (NtO.none w1 (Nat.le_refl w1.heap.size)) (by omega) (by omega) (Nat.le_refl _) E1 tz 1)
    go_wp2
    refine bodyPost_ret (v := .tuple #[NVz.val, .string tz, .int .i64 1]) ?_ ?_ ?_
    · exact results_not3 Tryz.results5 rfl HD.out.1
    · rfl
    · rw [HF.out]
      exact HD.out.2
  · cases hb : btw q 1 4
    · have HF : Hid (r = (NDz, tz, 2)) := by show _ = _; rw [← HR.out]; unfold cnv; rw [if_pos hv, hb]; rfl
      go_enter Tryz.func5, Tryz.ntmps5
      go_wp2_with fail
      (with_reducible refine (l07Ok_is w.heap.size (⟨k, A, na, ca, B, nb, cb, S, ns, cs, P, np, cp, Q, nq, cq⟩ : NV) D _ hv _ HV0.out (hI.ext E0)).mono ?_)
      rintro e w1 ⟨rfl, hx1⟩
      have E1 := E0.trans hx1
      have HV1 := Lib.hid (HV0.out.ext hx1)
      have HR1 := Lib.hid (HR0.out.ext hx1)
      obtain ⟨l0, b0, b1, b2, b3, b4, b5⟩ := HV1.out
      dsimp only at b0 b1 b2 b3 b4 b5
      obtain ⟨y0, x0⟩ := HR1.out.c 0 (by omega)
      obtain ⟨y1, x1⟩ := HR1.out.c 1 (by omega)
      obtain ⟨y2, x2⟩ := HR1.out.c 2 (by omega)
      obtain ⟨y3, x3⟩ := HR1.out.c 3 (by omega)
      obtain ⟨y4, x4⟩ := HR1.out.c 4 (by omega)
      obtain ⟨y5, x5⟩ := HR1.out.c 5 (by omega)
      have xf := HR1.out.f
      have xl := HR1.out.lt
      have HD := Lib.hid (cn_done (w := w) HR1.out (NtO.none w1 (Nat.le_refl w1.heap.size)) (by omega) (by omega) (Nat.le_refl _) E1 tz 2)
      go_wp2_with (go_at_call 16; (with_reducible refine (l00In_is _ _ _ _ hb _).mono ?_); rintro e w' ⟨rfl, rfl⟩)
      refine bodyPost_ret (v := .tuple #[NVz.val, .string tz, .int .i64 2]) ?_ ?_ ?_
      · exact results_not3 Tryz.results5 rfl HD.out.1
      · rfl
      · rw [HF.out]
        exact HD.out.2
    · by_cases hkq : q = k
      · have HF : Hid (r = (D, tz, 0)) := by show _ = _; rw [← HR.out]; unfold cnv; rw [if_pos hv, if_pos hb, if_pos (by have := HK.out; omega)]
        subst hkq
        clear HR
        go_enter Tryz.func5, Tryz.ntmps5
        go_wp2_with fail
        (with_reducible refine (l07Ok_is w.heap.size (⟨q, A, na, ca, B, nb, cb, S, ns, cs, P, np, cp, Q, nq, cq⟩ : NV) D _ hv _ HV0.out (hI.ext E0)).mono ?_)
        rintro e w1 ⟨rfl, hx1⟩
        have E1 := E0.trans hx1
        have HV1 := Lib.hid (HV0.out.ext hx1)
        have HR1 := Lib.hid (HR0.out.ext hx1)
        obtain ⟨l0, b0, b1, b2, b3, b4, b5⟩ := HV1.out
        dsimp only at b0 b1 b2 b3 b4 b5
        obtain ⟨y0, x0⟩ := HR1.out.c 0 (by omega)
        obtain ⟨y1, x1⟩ := HR1.out.c 1 (by omega)
        obtain ⟨y2, x2⟩ := HR1.out.c 2 (by omega)
        obtain ⟨y3, x3⟩ := HR1.out.c 3 (by omega)
        obtain ⟨y4, x4⟩ := HR1.out.c 4 (by omega)
        obtain ⟨y5, x5⟩ := HR1.out.c 5 (by omega)
        have xf := HR1.out.f
        have xl := HR1.out.lt
        go_wp2_with (go_at_call 16; (with_reducible refine (l00In_is _ _ _ _ hb _).mono ?_); rintro e w' ⟨rfl, rfl⟩)
        (with_reducible refine (l07Copy_all w.heap.size (⟨q, A, na, ca, B, nb, cb, S, ns, cs, P, np, cp, Q, nq, cq⟩ : NV) D _ HV1.out (hI.ext E1) hv).mono ?_)
        have hl1 : w.heap.size + 1 < w1.heap.size := HR1.out.lt
        rintro e w2 ⟨⟨k', A', na', ca', B', nb', cb', S', ns', cs', P', np', cp', Q', nq', cq'⟩, rfl, hO, hx2⟩
        have E2 := E1.trans hx2
        have hz2 := hx2.size
        have HV2 := Lib.hid (HV1.out.ext hx2)
        have HR2 := Lib.hid (HR1.out.ext hx2)
        clear b0 b1 b2 b3 b4 b5 x0 x1 x2 x3 x4 x5 xf xl
        obtain ⟨l0, b0, b1, b2, b3, b4, b5⟩ := HV2.out
        dsimp only at b0 b1 b2 b3 b4 b5
        obtain ⟨y0, x0⟩ := HR2.out.c 0 (by omega)
        obtain ⟨y1, x1⟩ := HR2.out.c 1 (by omega)
        obtain ⟨y2, x2⟩ := HR2.out.c 2 (by omega)
        obtain ⟨y3, x3⟩ := HR2.out.c 3 (by omega)
        obtain ⟨y4, x4⟩ := HR2.out.c 4 (by omega)
        obtain ⟨y5, x5⟩ := HR2.out.c 5 (by omega)
        have xf := HR2.out.f
        have xl := HR2.out.lt
        have HD := Lib.hid (cn_done (w := w) HR2.out hO (by omega) (by omega) (Nat.le_refl _) E2 tz 0)
        clear hO
        unfold NV.val
        dsimp only
        go_wp2
        refine bodyPost_ret (v := (.tuple #[(NV.mk k' A' na' ca' B' nb' cb' S' ns' cs' P' np' cp' Q' nq' cq').val, .string tz, .int .i64 0])) ?_ ?_ ?_
        · exact results_not3 Tryz.results5 rfl HD.out.1
        · rfl
        · rw [HF.out]
          exact HD.out.2
      · have HF : Hid (r = if (sgle D).2.2 = 0 then cnk (sgle D).1 (sgle D).2.1 q else (NDz, tz, (sgle D).2.2)) := by show _ = _; rw [← HR.out]; unfold cnv; rw [if_pos hv, if_pos hb, if_neg (by have := HK.out; omega)]
        have HVP : Hid ((sgle D).2.2 = 0 → vpat (sgle D).1 = true) := fun h => sgle_vpat hv HSE.out h
        have HLO : Hid (q = 3 → (sgle D).2.1 = tz ∨ (sgle D).2.1 = tJ) := fun h => sgle_lost (by have := HK.out; omega)
        have HL3 := Lib.hid (sgle_l3 D)
        clear HR
        go_enter Tryz.func5, Tryz.ntmps5
        go_wp2_with fail
        (with_reducible refine (l07Ok_is w.heap.size (⟨k, A, na, ca, B, nb, cb, S, ns, cs, P, np, cp, Q, nq, cq⟩ : NV) D _ hv _ HV0.out (hI.ext E0)).mono ?_)
        rintro e w1 ⟨rfl, hx1⟩
        have E1 := E0.trans hx1
        have HV1 := Lib.hid (HV0.out.ext hx1)
        have HR1 := Lib.hid (HR0.out.ext hx1)
        obtain ⟨l0, b0, b1, b2, b3, b4, b5⟩ := HV1.out
        dsimp only at b0 b1 b2 b3 b4 b5
        obtain ⟨y0, x0⟩ := HR1.out.c 0 (by omega)
        obtain ⟨y1, x1⟩ := HR1.out.c 1 (by omega)
        obtain ⟨y2, x2⟩ := HR1.out.c 2 (by omega)
        obtain ⟨y3, x3⟩ := HR1.out.c 3 (by omega)
        obtain ⟨y4, x4⟩ := HR1.out.c 4 (by omega)
        obtain ⟨y5, x5⟩ := HR1.out.c 5 (by omega)
        have xf := HR1.out.f
        have xl := HR1.out.lt
        go_wp2_with (go_at_call 16; (with_reducible refine (l00In_is _ _ _ _ hb _).mono ?_); rintro e w' ⟨rfl, rfl⟩)
        (with_reducible refine (l07To_any w.heap.size (⟨k, A, na, ca, B, nb, cb, S, ns, cs, P, np, cp, Q, nq, cq⟩ : NV) D _ HV1.out (hI.ext E1) hv).mono ?_)
        intro e w2 hsl
        generalize sgle D = z at hsl HF HVP HLO HL3
        obtain ⟨p, l, c⟩ := z
        dsimp only at hsl HF HVP HLO HL3
        rcases hsl with ⟨hc, A1, c1, rfl, hO⟩ | ⟨hc, ⟨v, l', rfl⟩, hx2⟩
        · dsimp only at hc hO ⊢
          subst hc
          have HF2 : Hid (r = cnk p l q) := by show _ = _; rw [HF.out]; exact if_pos rfl
          have hvp := HVP.out rfl
          have hx2 := hO.ext
          have hz2 := hx2.size
          have E2 := E1.trans hx2
          have hl1 : w.heap.size + 1 < w1.heap.size := HR1.out.lt
          have hpl := vpat_len hvp
          obtain ⟨n, hn⟩ : ∃ n, p.length = n := ⟨_, rfl⟩
          rw [hn] at hO hpl ⊢
          have hbd := vpat_bd hvp
          have HIp : Hid (Ints w2 A1 n p) := hO.ints hn (by omega) hbd
          have HRW : Hid (Row w2 w1.heap.size w2.heap.size 2 1 A1 n c1 p) := Row.of_own hO hn
          clear hO hbd
          have HV2 := Lib.hid (HV1.out.ext hx2)
          have HR2 := Lib.hid (HR1.out.ext hx2)
          clear b0 b1 b2 b3 b4 b5 x0 x1 x2 x3 x4 x5 xf xl
          obtain ⟨l0, b0, b1, b2, b3, b4, b5⟩ := HV2.out
          dsimp only at b0 b1 b2 b3 b4 b5
          obtain ⟨y0, x0⟩ := HR2.out.c 0 (by omega)
          obtain ⟨y1, x1⟩ := HR2.out.c 1 (by omega)
          obtain ⟨y2, x2⟩ := HR2.out.c 2 (by omega)
          obtain ⟨y3, x3⟩ := HR2.out.c 3 (by omega)
          obtain ⟨y4, x4⟩ := HR2.out.c 4 (by omega)
          obtain ⟨y5, x5⟩ := HR2.out.c 5 (by omega)
          have xf := HR2.out.f
          have xl := HR2.out.lt
          rcases (show q = 1 ∨ q = 2 ∨ q = 3 ∨ q = 4 by have := btw_iff.1 hb; omega) with rfl | rfl | rfl | rfl
          · have HF3 : Hid (r = (⟨1, p, [], [], [], []⟩, l, 0)) := HF2.out
            have HLQ := HL3
            go_wp2_with fail
            (with_reducible refine (from1 A1 n c1 _).mono ?_)
            rintro e w4 ⟨rfl, hx4⟩
            have hO : NtO w4 w1.heap.size w2.heap.size (NV.mk 1 A1 n c1 none 0 0 none 0 0 none 0 0 none 0 0) ⟨1, p, [], [], [], []⟩ := ⟨rfl, w1.heap.size, w2.heap.size, w1.heap.size, w1.heap.size, w1.heap.size, w1.heap.size, w1.heap.size, w1.heap.size, ⟨by omega, by omega, by omega, by omega, by omega, by omega, by omega, by omega, by omega, by omega⟩, .inl (HRW.out.ext hx4), .inr ⟨rfl, rfl⟩, .inr ⟨rfl, rfl⟩, .inr ⟨rfl, rfl, rfl, rfl⟩⟩
            have hx4' : w2.heap.size ≤ w4.heap.size := hx4.size
            have E4 := E2.trans hx4
            have HV4 := Lib.hid (HV2.out.ext hx4)
            have HR4 := Lib.hid (HR2.out.ext hx4)
            clear b0 b1 b2 b3 b4 b5 x0 x1 x2 x3 x4 x5 xf xl
            obtain ⟨l0, b0, b1, b2, b3, b4, b5⟩ := HV4.out
            dsimp only at b0 b1 b2 b3 b4 b5
            obtain ⟨y0, x0⟩ := HR4.out.c 0 (by omega)
            obtain ⟨y1, x1⟩ := HR4.out.c 1 (by omega)
            obtain ⟨y2, x2⟩ := HR4.out.c 2 (by omega)
            obtain ⟨y3, x3⟩ := HR4.out.c 3 (by omega)
            obtain ⟨y4, x4⟩ := HR4.out.c 4 (by omega)
            obtain ⟨y5, x5⟩ := HR4.out.c 5 (by omega)
            have xf := HR4.out.f
            have xl := HR4.out.lt
            unfold NV.val
            dsimp only
            rcases HLQ.out with rfl | rfl | rfl
            · have HD := Lib.hid (cn_done (w := w) (V := (NV.mk 1 A1 n c1 none 0 0 none 0 0 none 0 0 none 0 0)) HR4.out hO (by omega) (by omega) (by omega) E4 tz 0)
              clear hO
              (try unfold tz)
              (try unfold tT)
              (try unfold tJ)
              go_wp2
              refine bodyPost_ret (v := .tuple #[(NV.mk 1 A1 n c1 none 0 0 none 0 0 none 0 0 none 0 0).val, .string tz, .int .i64 0]) ?_ ?_ ?_
              · exact results_not3 Tryz.results5 rfl (HD.out.1.ext ((Ext.refl _).alloc (.cells #[.int .i64 1, .slice A1 n c1, .slice none 0 0, .slice none 0 0, .slice none 0 0, .slice none 0 0] 39)))
              · rfl
              · rw [HF3.out]
                exact (HD.out.2.ext ((Ext.refl _).alloc (.cells #[.int .i64 1, .slice A1 n c1, .slice none 0 0, .slice none 0 0, .slice none 0 0, .slice none 0 0] 39)))
            · have HD := Lib.hid (cn_done (w := w) (V := (NV.mk 1 A1 n c1 none 0 0 none 0 0 none 0 0 none 0 0)) HR4.out hO (by omega) (by omega) (by omega) E4 tT 0)
              clear hO
              (try unfold tz)
              (try unfold tT)
              (try unfold tJ)
              go_wp2
              refine bodyPost_ret (v := .tuple #[(NV.mk 1 A1 n c1 none 0 0 none 0 0 none 0 0 none 0 0).val, .string tT, .int .i64 0]) ?_ ?_ ?_
              · exact results_not3 Tryz.results5 rfl (HD.out.1.ext ((Ext.refl _).alloc (.cells #[.int .i64 1, .slice A1 n c1, .slice none 0 0, .slice none 0 0, .slice none 0 0, .slice none 0 0] 39)))
              · rfl
              · rw [HF3.out]
                exact (HD.out.2.ext ((Ext.refl _).alloc (.cells #[.int .i64 1, .slice A1 n c1, .slice none 0 0, .slice none 0 0, .slice none 0 0, .slice none 0 0] 39)))
            · have HD := Lib.hid (cn_done (w := w) (V := (NV.mk 1 A1 n c1 none 0 0 none 0 0 none 0 0 none 0 0)) HR4.out hO (by omega) (by omega) (by omega) E4 tJ 0)
              clear hO
              (try unfold tz)
              (try unfold tT)
              (try unfold tJ)
              go_wp2
              refine bodyPost_ret (v := .tuple #[(NV.mk 1 A1 n c1 none 0 0 none 0 0 none 0 0 none 0 0).val, .string tJ, .int .i64 0]) ?_ ?_ ?_
              · exact results_not3 Tryz.results5 rfl (HD.out.1.ext ((Ext.refl _).alloc (.cells #[.int .i64 1, .slice A1 n c1, .slice none 0 0, .slice none 0 0, .slice none 0 0, .slice none 0 0] 39)))
              · rfl
              · rw [HF3.out]
                exact (HD.out.2.ext ((Ext.refl _).alloc (.cells #[.int .i64 1, .slice A1 n c1, .slice none 0 0, .slice none 0 0, .slice none 0 0, .slice none 0 0] 39)))
          · have HF3 : Hid (r = (⟨2, [], wrp p, [], [], []⟩, l, 0)) := HF2.out
            have HLQ := HL3
            go_wp2_with fail
            (with_reducible refine (from2 A1 n c1 p _ HIp.out (by omega)).mono ?_)
            rintro e w4 ⟨⟨k', A', na', ca', B', nb', cb', S', ns', cs', P', np', cp', Q', nq', cq'⟩, rfl, hO, hx4⟩
            have hx4' : w2.heap.size ≤ w4.heap.size := hx4.size
            have E4 := E2.trans hx4
            have HV4 := Lib.hid (HV2.out.ext hx4)
            have HR4 := Lib.hid (HR2.out.ext hx4)
            clear b0 b1 b2 b3 b4 b5 x0 x1 x2 x3 x4 x5 xf xl
            obtain ⟨l0, b0, b1, b2, b3, b4, b5⟩ := HV4.out
            dsimp only at b0 b1 b2 b3 b4 b5
            obtain ⟨y0, x0⟩ := HR4.out.c 0 (by omega)
            obtain ⟨y1, x1⟩ := HR4.out.c 1 (by omega)
            obtain ⟨y2, x2⟩ := HR4.out.c 2 (by omega)
            obtain ⟨y3, x3⟩ := HR4.out.c 3 (by omega)
            obtain ⟨y4, x4⟩ := HR4.out.c 4 (by omega)
            obtain ⟨y5, x5⟩ := HR4.out.c 5 (by omega)
            have xf := HR4.out.f
            have xl := HR4.out.lt
            unfold NV.val
            dsimp only
            rcases HLQ.out with rfl | rfl | rfl
            · have HD := Lib.hid (cn_done (w := w) (V := (NV.mk k' A' na' ca' B' nb' cb' S' ns' cs' P' np' cp' Q' nq' cq')) HR4.out hO (by omega) (by omega) (by omega) E4 tz 0)
              clear hO
              (try unfold tz)
              (try unfold tT)
              (try unfold tJ)
              go_wp2
              refine bodyPost_ret (v := .tuple #[(NV.mk k' A' na' ca' B' nb' cb' S' ns' cs' P' np' cp' Q' nq' cq').val, .string tz, .int .i64 0]) ?_ ?_ ?_
              · exact results_not3 Tryz.results5 rfl (HD.out.1.ext ((Ext.refl _).alloc (.cells #[.int .i64 k', .slice A' na' ca', .slice B' nb' cb', .slice S' ns' cs', .slice P' np' cp', .slice Q' nq' cq'] 39)))
              · rfl
              · rw [HF3.out]
                exact (HD.out.2.ext ((Ext.refl _).alloc (.cells #[.int .i64 k', .slice A' na' ca', .slice B' nb' cb', .slice S' ns' cs', .slice P' np' cp', .slice Q' nq' cq'] 39)))
            · have HD := Lib.hid (cn_done (w := w) (V := (NV.mk k' A' na' ca' B' nb' cb' S' ns' cs' P' np' cp' Q' nq' cq')) HR4.out hO (by omega) (by omega) (by omega) E4 tT 0)
              clear hO
              (try unfold tz)
              (try unfold tT)
              (try unfold tJ)
              go_wp2
              refine bodyPost_ret (v := .tuple #[(NV.mk k' A' na' ca' B' nb' cb' S' ns' cs' P' np' cp' Q' nq' cq').val, .string tT, .int .i64 0]) ?_ ?_ ?_
              · exact results_not3 Tryz.results5 rfl (HD.out.1.ext ((Ext.refl _).alloc (.cells #[.int .i64 k', .slice A' na' ca', .slice B' nb' cb', .slice S' ns' cs', .slice P' np' cp', .slice Q' nq' cq'] 39)))
              · rfl
              · rw [HF3.out]
                exact (HD.out.2.ext ((Ext.refl _).alloc (.cells #[.int .i64 k', .slice A' na' ca', .slice B' nb' cb', .slice S' ns' cs', .slice P' np' cp', .slice Q' nq' cq'] 39)))
            · have HD := Lib.hid (cn_done (w := w) (V := (NV.mk k' A' na' ca' B' nb' cb' S' ns' cs' P' np' cp' Q' nq' cq')) HR4.out hO (by omega) (by omega) (by omega) E4 tJ 0)
              clear hO
              (try unfold tz)
              (try unfold tT)
              (try unfold tJ)
              go_wp2
              refine bodyPost_ret (v := .tuple #[(NV.mk k' A' na' ca' B' nb' cb' S' ns' cs' P' np' cp' Q' nq' cq').val, .string tJ, .int .i64 0]) ?_ ?_ ?_
              · exact results_not3 Tryz.results5 rfl (HD.out.1.ext ((Ext.refl _).alloc (.cells #[.int .i64 k', .slice A' na' ca', .slice B' nb' cb', .slice S' ns' cs', .slice P' np' cp', .slice Q' nq' cq'] 39)))
              · rfl
              · rw [HF3.out]
                exact (HD.out.2.ext ((Ext.refl _).alloc (.cells #[.int .i64 k', .slice A' na' ca', .slice B' nb' cb', .slice S' ns' cs', .slice P' np' cp', .slice Q' nq' cq'] 39)))
          · have HLQ := Lib.hid (HLO.out rfl)
            have HF3 : Hid (r = if (pup p).2 = 0 then (⟨3, [], [], (pup p).1, [], []⟩, jn l, 0) else (NDz, tz, (pup p).2)) := HF2.out
            go_wp2_with fail
            (with_reducible refine (from3 A1 n c1 p _ HIp.out hvp).mono ?_)
            generalize pup p = z at HF3 ⊢
            obtain ⟨ts, rc⟩ := z
            dsimp only at HF3 ⊢
            rintro e w4 ⟨⟨k', A', na', ca', B', nb', cb', S', ns', cs', P', np', cp', Q', nq', cq'⟩, rfl, hO, hx4⟩
            by_cases hrc : rc = 0
            · subst hrc
              have HF4 : Hid (r = (⟨3, [], [], ts, [], []⟩, jn l, 0)) := by show _ = _; rw [HF3.out]; exact if_pos rfl
              have hx4' : w2.heap.size ≤ w4.heap.size := hx4.size
              have E4 := E2.trans hx4
              have HV4 := Lib.hid (HV2.out.ext hx4)
              have HR4 := Lib.hid (HR2.out.ext hx4)
              clear b0 b1 b2 b3 b4 b5 x0 x1 x2 x3 x4 x5 xf xl
              obtain ⟨l0, b0, b1, b2, b3, b4, b5⟩ := HV4.out
              dsimp only at b0 b1 b2 b3 b4 b5
              obtain ⟨y0, x0⟩ := HR4.out.c 0 (by omega)
              obtain ⟨y1, x1⟩ := HR4.out.c 1 (by omega)
              obtain ⟨y2, x2⟩ := HR4.out.c 2 (by omega)
              obtain ⟨y3, x3⟩ := HR4.out.c 3 (by omega)
              obtain ⟨y4, x4⟩ := HR4.out.c 4 (by omega)
              obtain ⟨y5, x5⟩ := HR4.out.c 5 (by omega)
              have xf := HR4.out.f
              have xl := HR4.out.lt
              unfold NV.val
              dsimp only
              rcases HLQ.out with rfl | rfl
              · have HD := Lib.hid (cn_done (w := w) (V := (NV.mk k' A' na' ca' B' nb' cb' S' ns' cs' P' np' cp' Q' nq' cq')) HR4.out hO (by omega) (by omega) (by omega) E4 tT 0)
                clear hO
                (try unfold tz)
                (try unfold tT)
                (try unfold tJ)
                go_wp2
                refine bodyPost_ret (v := .tuple #[(NV.mk k' A' na' ca' B' nb' cb' S' ns' cs' P' np' cp' Q' nq' cq').val, .string tT, .int .i64 0]) ?_ ?_ ?_
                · exact results_not3 Tryz.results5 rfl (HD.out.1.ext ((Ext.refl _).alloc (.cells #[.int .i64 k', .slice A' na' ca', .slice B' nb' cb', .slice S' ns' cs', .slice P' np' cp', .slice Q' nq' cq'] 39)))
                · rfl
                · rw [HF4.out, jn_z]
                  exact (HD.out.2.ext ((Ext.refl _).alloc (.cells #[.int .i64 k', .slice A' na' ca', .slice B' nb' cb', .slice S' ns' cs', .slice P' np' cp', .slice Q' nq' cq'] 39)))
              · have HD := Lib.hid (cn_done (w := w) (V := (NV.mk k' A' na' ca' B' nb' cb' S' ns' cs' P' np' cp' Q' nq' cq')) HR4.out hO (by omega) (by omega) (by omega) E4 tJT 0)
                clear hO
                (try unfold tz)
                (try unfold tT)
                (try unfold tJ)
                go_wp2
                refine bodyPost_ret (v := .tuple #[(NV.mk k' A' na' ca' B' nb' cb' S' ns' cs' P' np' cp' Q' nq' cq').val, .string tJT, .int .i64 0]) ?_ ?_ ?_
                · exact results_not3 Tryz.results5 rfl (HD.out.1.ext ((Ext.refl _).alloc (.cells #[.int .i64 k', .slice A' na' ca', .slice B' nb' cb', .slice S' ns' cs', .slice P' np' cp', .slice Q' nq' cq'] 39)))
                · rfl
                · rw [HF4.out, jn_j]
                  exact (HD.out.2.ext ((Ext.refl _).alloc (.cells #[.int .i64 k', .slice A' na' ca', .slice B' nb' cb', .slice S' ns' cs', .slice P' np' cp', .slice Q' nq' cq'] 39)))
            · have HF4 : Hid (r = (NDz, tz, rc)) := by show _ = _; rw [HF3.out]; exact if_neg hrc
              have E4 := E2.trans hx4
              have HV4 := Lib.hid (HV2.out.ext hx4)
              have HR4 := Lib.hid (HR2.out.ext hx4)
              clear b0 b1 b2 b3 b4 b5 x0 x1 x2 x3 x4 x5 xf xl
              obtain ⟨l0, b0, b1, b2, b3, b4, b5⟩ := HV4.out
              dsimp only at b0 b1 b2 b3 b4 b5
              obtain ⟨y0, x0⟩ := HR4.out.c 0 (by omega)
              obtain ⟨y1, x1⟩ := HR4.out.c 1 (by omega)
              obtain ⟨y2, x2⟩ := HR4.out.c 2 (by omega)
              obtain ⟨y3, x3⟩ := HR4.out.c 3 (by omega)
              obtain ⟨y4, x4⟩ := HR4.out.c 4 (by omega)
              obtain ⟨y5, x5⟩ := HR4.out.c 5 (by omega)
              have xf := HR4.out.f
              have xl := HR4.out.lt
              have HD := Lib.hid (cn_done (w := w) HR4.out (NtO.none w4 (Nat.le_refl w4.heap.size)) (by omega) (by omega) (Nat.le_refl _) E4 tz rc)
              unfold NV.val
              dsimp only
              go_wp2
              refine bodyPost_ret (v := .tuple #[NVz.val, .string tz, .int .i64 rc]) ?_ ?_ ?_
              · exact results_not3 Tryz.results5 rfl (HD.out.1.ext ((Ext.refl _).alloc (.cells #[.int .i64 k', .slice A' na' ca', .slice B' nb' cb', .slice S' ns' cs', .slice P' np' cp', .slice Q' nq' cq'] 39)))
              · rfl
              · rw [HF4.out]
                exact (HD.out.2.ext ((Ext.refl _).alloc (.cells #[.int .i64 k', .slice A' na' ca', .slice B' nb' cb', .slice S' ns' cs', .slice P' np' cp', .slice Q' nq' cq'] 39)))
          · by_cases h8 : n ≤ 8
            · have HF3 : Hid (r = (⟨4, [], [], [], sf p, sf p⟩, l, 0)) := by show _ = _; rw [HF2.out]; unfold cnk; exact (if_neg (by decide)).trans ((if_neg (by decide)).trans ((if_neg (by decide)).trans (if_pos (by omega))))
              have HLQ := HL3
              go_wp2_with fail
              (with_reducible refine (from4 A1 n c1 p _ HIp.out hvp (by omega)).mono ?_)
              rintro e w4 ⟨⟨k', A', na', ca', B', nb', cb', S', ns', cs', P', np', cp', Q', nq', cq'⟩, rfl, hO, hx4⟩
              have hx4' : w2.heap.size ≤ w4.heap.size := hx4.size
              have E4 := E2.trans hx4
              have HV4 := Lib.hid (HV2.out.ext hx4)
              have HR4 := Lib.hid (HR2.out.ext hx4)
              clear b0 b1 b2 b3 b4 b5 x0 x1 x2 x3 x4 x5 xf xl
              obtain ⟨l0, b0, b1, b2, b3, b4, b5⟩ := HV4.out
              dsimp only at b0 b1 b2 b3 b4 b5
              obtain ⟨y0, x0⟩ := HR4.out.c 0 (by omega)
              obtain ⟨y1, x1⟩ := HR4.out.c 1 (by omega)
              obtain ⟨y2, x2⟩ := HR4.out.c 2 (by omega)
              obtain ⟨y3, x3⟩ := HR4.out.c 3 (by omega)
              obtain ⟨y4, x4⟩ := HR4.out.c 4 (by omega)
              obtain ⟨y5, x5⟩ := HR4.out.c 5 (by omega)
              have xf := HR4.out.f
              have xl := HR4.out.lt
              unfold NV.val
              dsimp only
              rcases HLQ.out with rfl | rfl | rfl
              · have HD := Lib.hid (cn_done (w := w) (V := (NV.mk k' A' na' ca' B' nb' cb' S' ns' cs' P' np' cp' Q' nq' cq')) HR4.out hO (by omega) (by omega) (by omega) E4 tz 0)
                clear hO
                (try unfold tz)
                (try unfold tT)
                (try unfold tJ)
                go_wp2
                refine bodyPost_ret (v := .tuple #[(NV.mk k' A' na' ca' B' nb' cb' S' ns' cs' P' np' cp' Q' nq' cq').val, .string tz, .int .i64 0]) ?_ ?_ ?_
                · exact results_not3 Tryz.results5 rfl (HD.out.1.ext ((Ext.refl _).alloc (.cells #[.int .i64 k', .slice A' na' ca', .slice B' nb' cb', .slice S' ns' cs', .slice P' np' cp', .slice Q' nq' cq'] 39)))
                · rfl
                · rw [HF3.out]
                  exact (HD.out.2.ext ((Ext.refl _).alloc (.cells #[.int .i64 k', .slice A' na' ca', .slice B' nb' cb', .slice S' ns' cs', .slice P' np' cp', .slice Q' nq' cq'] 39)))
              · have HD := Lib.hid (cn_done (w := w) (V := (NV.mk k' A' na' ca' B' nb' cb' S' ns' cs' P' np' cp' Q' nq' cq')) HR4.out hO (by omega) (by omega) (by omega) E4 tT 0)
                clear hO
                (try unfold tz)
                (try unfold tT)
                (try unfold tJ)
                go_wp2
                refine bodyPost_ret (v := .tuple #[(NV.mk k' A' na' ca' B' nb' cb' S' ns' cs' P' np' cp' Q' nq' cq').val, .string tT, .int .i64 0]) ?_ ?_ ?_
                · exact results_not3 Tryz.results5 rfl (HD.out.1.ext ((Ext.refl _).alloc (.cells #[.int .i64 k', .slice A' na' ca', .slice B' nb' cb', .slice S' ns' cs', .slice P' np' cp', .slice Q' nq' cq'] 39)))
                · rfl
                · rw [HF3.out]
                  exact (HD.out.2.ext ((Ext.refl _).alloc (.cells #[.int .i64 k', .slice A' na' ca', .slice B' nb' cb', .slice S' ns' cs', .slice P' np' cp', .slice Q' nq' cq'] 39)))
              · have HD := Lib.hid (cn_done (w := w) (V := (NV.mk k' A' na' ca' B' nb' cb' S' ns' cs' P' np' cp' Q' nq' cq')) HR4.out hO (by omega) (by omega) (by omega) E4 tJ 0)
                clear hO
                (try unfold tz)
                (try unfold tT)
                (try unfold tJ)
                go_wp2
                refine bodyPost_ret (v := .tuple #[(NV.mk k' A' na' ca' B' nb' cb' S' ns' cs' P' np' cp' Q' nq' cq').val, .string tJ, .int .i64 0]) ?_ ?_ ?_
                · exact results_not3 Tryz.results5 rfl (HD.out.1.ext ((Ext.refl _).alloc (.cells #[.int .i64 k', .slice A' na' ca', .slice B' nb' cb', .slice S' ns' cs', .slice P' np' cp', .slice Q' nq' cq'] 39)))
                · rfl
                · rw [HF3.out]
                  exact (HD.out.2.ext ((Ext.refl _).alloc (.cells #[.int .i64 k', .slice A' na' ca', .slice B' nb' cb', .slice S' ns' cs', .slice P' np' cp', .slice Q' nq' cq'] 39)))
            · have HF4 : Hid (r = (NDz, tz, 5)) := by show _ = _; rw [HF2.out]; unfold cnk; exact (if_neg (by decide)).trans ((if_neg (by decide)).trans ((if_neg (by decide)).trans (if_neg (by omega))))
              go_wp2_with fail
              (with_reducible refine (from4z A1 n c1 p _ HIp.out hvp (by omega)).mono ?_)
              rintro e w4 ⟨⟨k', A', na', ca', B', nb', cb', S', ns', cs', P', np', cp', Q', nq', cq'⟩, rfl, hO, hx4⟩
              have E4 := E2.trans hx4
              have HV4 := Lib.hid (HV2.out.ext hx4)
              have HR4 := Lib.hid (HR2.out.ext hx4)
              clear b0 b1 b2 b3 b4 b5 x0 x1 x2 x3 x4 x5 xf xl
              obtain ⟨l0, b0, b1, b2, b3, b4, b5⟩ := HV4.out
              dsimp only at b0 b1 b2 b3 b4 b5
              obtain ⟨y0, x0⟩ := HR4.out.c 0 (by omega)
              obtain ⟨y1, x1⟩ := HR4.out.c 1 (by omega)
              obtain ⟨y2, x2⟩ := HR4.out.c 2 (by omega)
              obtain ⟨y3, x3⟩ := HR4.out.c 3 (by omega)
              obtain ⟨y4, x4⟩ := HR4.out.c 4 (by omega)
              obtain ⟨y5, x5⟩ := HR4.out.c 5 (by omega)
              have xf := HR4.out.f
              have xl := HR4.out.lt
              have HD := Lib.hid (cn_done (w := w) HR4.out (NtO.none w4 (Nat.le_refl w4.heap.size)) (by omega) (by omega) (Nat.le_refl _) E4 tz 5)
              unfold NV.val
              dsimp only
              go_wp2
              refine bodyPost_ret (v := .tuple #[NVz.val, .string tz, .int .i64 5]) ?_ ?_ ?_
              · exact results_not3 Tryz.results5 rfl (HD.out.1.ext ((Ext.refl _).alloc (.cells #[.int .i64 k', .slice A' na' ca', .slice B' nb' cb', .slice S' ns' cs', .slice P' np' cp', .slice Q' nq' cq'] 39)))
              · rfl
              · rw [HF4.out]
                exact (HD.out.2.ext ((Ext.refl _).alloc (.cells #[.int .i64 k', .slice A' na' ca', .slice B' nb' cb', .slice S' ns' cs', .slice P' np' cp', .slice Q' nq' cq'] 39)))
        · dsimp only at hc ⊢
          have HF2 : Hid (r = (NDz, tz, c)) := by show _ = _; rw [HF.out]; exact if_neg hc
          have E2 := E1.trans hx2
          have hz2 := hx2.size
          have HV2 := Lib.hid (HV1.out.ext hx2)
          have HR2 := Lib.hid (HR1.out.ext hx2)
          clear b0 b1 b2 b3 b4 b5 x0 x1 x2 x3 x4 x5 xf xl
          obtain ⟨l0, b0, b1, b2, b3, b4, b5⟩ := HV2.out
          dsimp only at b0 b1 b2 b3 b4 b5
          obtain ⟨y0, x0⟩ := HR2.out.c 0 (by omega)
          obtain ⟨y1, x1⟩ := HR2.out.c 1 (by omega)
          obtain ⟨y2, x2⟩ := HR2.out.c 2 (by omega)
          obtain ⟨y3, x3⟩ := HR2.out.c 3 (by omega)
          obtain ⟨y4, x4⟩ := HR2.out.c 4 (by omega)
          obtain ⟨y5, x5⟩ := HR2.out.c 5 (by omega)
          have xf := HR2.out.f
          have xl := HR2.out.lt
          have HD := Lib.hid (cn_done (w := w) HR2.out (NtO.none w2 (Nat.le_refl w2.heap.size)) (by omega) (by omega) (Nat.le_refl _) E2 tz c)
          go_wp2
          refine bodyPost_ret (v := .tuple #[NVz.val, .string tz, .int .i64 c]) ?_ ?_ ?_
          · exact results_not3 Tryz.results5 rfl HD.out.1
          · rfl
          · rw [HF2.out]
            exact HD.out.2
end Go.Proofs.YtohmnilkmljioaaGreat

namespace Go.Proofs.YtohmnilkmljioaaGreat
set_option linter.unusedVariables false
set_option linter.unusedSimpArgs false
open Go.ChangeShapes Go.WideShapes Go.ChangeAt Go.RowKit Go.Joins Go.Deep

theorem NDz_ok : NDz.Sm ∧ NDz.Bd := ⟨⟨by decide, by decide, fun i hi => absurd hi (by simp [NDz]), by decide, by decide, by decide⟩, ⟨by simp [NDz], fun i hi => absurd hi (by simp [NDz])⟩⟩
theorem ll_wrp {p : List Int} {i : Nat} (h : i < (wrp p).length) : ll (wrp p) i = [p[i]?.getD 0] := by
  have hi : i < p.length := by rwa [wrp_len] at h
  unfold ll wrp
  rw [List.getElem?_map, List.getElem?_eq_getElem hi]
  rfl
theorem pup_len (p : List Int) : (pup p).1.length ≤ 1000 := by
  unfold pup
  split
  · simp
  · split
    · rw [tbk_len]; omega
    · simp
theorem cnk_ok {p : List Int} (hp : vpat p = true) (l : ByteArray) (q : Int) : (cnk p l q).1.Sm ∧ (cnk p l q).1.Bd := by
  have hl := vpat_len hp
  have hb := vpat_bd hp
  unfold cnk
  split
  · exact ⟨⟨by dsimp only; omega, by simp, fun i hi => absurd hi (by simp), by simp, by simp, by simp⟩, ⟨hb, fun i hi => absurd hi (by simp)⟩⟩
  · split
    · refine ⟨⟨by simp, by dsimp only; rw [wrp_len]; omega, fun i hi => ?_, by simp, by simp, by simp⟩, ⟨by simp, fun i hi => ?_⟩⟩
      · dsimp only at hi ⊢
        rw [ll_wrp hi]; simp
      · dsimp only at hi ⊢
        rw [ll_wrp hi]
        refine ⟨by simp, fun y hy => ?_⟩
        simp at hy
        subst hy
        have hi' : i < p.length := by rwa [wrp_len] at hi
        rw [List.getElem?_eq_getElem hi']
        exact hb _ (List.getElem_mem hi')
    · split
      · split
        · have := pup_len p
          exact ⟨⟨by simp, by simp, fun i hi => absurd hi (by simp), by dsimp only; omega, by simp, by simp⟩, ⟨by simp, fun i hi => absurd hi (by simp)⟩⟩
        · exact NDz_ok
      · split
        · exact ⟨⟨by simp, by simp, fun i hi => absurd hi (by simp), by simp, by dsimp only; rw [sf_len]; omega, by dsimp only; rw [sf_len]; omega⟩, ⟨by simp, fun i hi => absurd hi (by simp)⟩⟩
        · exact NDz_ok
theorem cnv_ok {D : ND} (hs : D.Sm) (hb : D.Bd) (he : D.s.length = 2 * (D.s.length / 2)) (q : Int) : (cnv D q).1.Sm ∧ (cnv D q).1.Bd := by
  unfold cnv
  split
  · split
    · split
      · exact ⟨hs, hb⟩
      · split
        · exact cnk_ok (sgle_vpat (by assumption) he (by assumption)) _ _
        · exact NDz_ok
    · exact NDz_ok
  · exact NDz_ok
theorem mkD_bd {k : Int} {D : ND} (hs : D.Sm) (hk : 0 ≤ k ∧ k ≤ 1000) : (mkD k D).Sm ∧ (mkD k D).Bd ∧ 0 ≤ mkE k D ∧ mkE k D ≤ 4000000000000 := by
  obtain ⟨s0, s1, s2, s3, s4, s5⟩ := hs
  have hsb := sml_lt (f := fun i => (ll D.m i).length) (n := D.m.length) (fun i hi => s2 i hi) s1 (Nat.le_refl _)
  refine ⟨⟨by unfold mkD; dsimp only; rw [marks_len]; exact s0, by unfold mkD; dsimp only; rw [mkL_len]; exact s1, fun i hi => ?_, by unfold mkD; dsimp only; rw [mkT_len]; exact s3, by unfold mkD; dsimp only; rw [mkT_len]; exact s4, by unfold mkD; dsimp only; rw [mkT_len]; exact s5⟩, ⟨?_, ?_⟩, ?_, ?_⟩
  · unfold mkD at hi ⊢
    dsimp only at hi ⊢
    rw [mkL_len] at hi
    rw [mkL_ll hi, marks_len]
    exact s2 i hi
  · unfold mkD; dsimp only; exact marks_bd (by omega) (by omega)
  · unfold mkD; dsimp only; exact mkL_bd (by omega) s1 (fun i hi => s2 i hi)
  · unfold mkE; omega
  · unfold mkE; omega
theorem NtR.bd {w : World} {V : NV} {D : ND} (h : NtR w V D) (hs : D.Sm) : D.Bd := by
  refine ⟨h.p.bds, fun i hi => ⟨hs.l i hi, ?_⟩⟩
  have hl := h.m.len
  obtain ⟨b, off, _, _, hc⟩ := h.m.at_ (by omega)
  obtain ⟨B, m, c, _, hI⟩ := hc i (by omega)
  exact hI.bds
theorem NBox.newT (w : World) (V : NV) (t : TypeId) : NBox (w.alloc (.cells #[.int .i64 V.k, .slice V.A V.na V.ca, .slice V.B V.nb V.cb, .slice V.S V.ns V.cs, .slice V.P V.np V.cp, .slice V.Q V.nq V.cq] t)) w.heap.size V :=
  ⟨by simp, by go_simp, by go_simp, by go_simp, by go_simp, by go_simp, by go_simp⟩
theorem NBox.held {w w' : World} {g lo hi : Nat} {V : NV} (h : NBox w g V) (k : Kept lo hi w w') (hr : g < lo ∨ hi ≤ g) : NBox w' g V :=
  h.move k.size (fun o => World.cell?_of_block (k.block g h.lt hr))
end Go.Proofs.YtohmnilkmljioaaGreat

namespace Go.Proofs.YtohmnilkmljioaaGreat
set_option linter.unusedVariables false
set_option linter.unusedSimpArgs false
open Go.ChangeShapes Go.WideShapes Go.ChangeAt Go.RowKit Go.Joins Go.Deep

theorem NtO.even {w : World} {lo hi : Nat} {V : NV} {D : ND} (h : NtO w lo hi V D) : D.s.length % 2 = 0 := by
  obtain ⟨_, _, _, _, _, _, _, _, _, _, _, r2, _⟩ := h.own
  have := r2.len
  omega
theorem NtR.pq {w : World} {V : NV} {D : ND} (h : NtR w V D) (hs : D.Sm) : V.np ≤ 1048576 ∧ V.nq ≤ 1048576 := by
  have h1 := h.a.len
  have h2 := h.b.len
  have h3 := hs.a
  have h4 := hs.b
  omega
theorem szN_x (k : Int) (A : Option Addr) (na ca : Nat) (B : Option Addr) (nb cb : Nat) (S : Option Addr) (ns cs : Nat) (P : Option Addr) (np cp : Nat) (Q : Option Addr) (nq cq : Nat) (D : ND) (r : Int) (w : World) (hI : NtR w (NV.mk k A na ca B nb cb S ns cs P np cp Q nq cq) D) (hr : 0 ≤ r ∧ r ≤ 1048576) :
    Calls Tryz.prog 4 #[.agg #[.int .i64 k, .slice A na ca, .slice B nb cb, .slice S ns cs, .slice P np cp, .slice Q nq cq], .int .i64 r] w (Left D.Sm w) := szNotation_left (NV.mk k A na ca B nb cb S ns cs P np cp Q nq cq) D r w hI hr
theorem toN_x (k : Int) (A : Option Addr) (na ca : Nat) (B : Option Addr) (nb cb : Nat) (S : Option Addr) (ns cs : Nat) (P : Option Addr) (np cp : Nat) (Q : Option Addr) (nq cq : Nat) (D : ND) (w : World) (hI : NtR w (NV.mk k A na ca B nb cb S ns cs P np cp Q nq cq) D) (hS : D.Sm) :
    Calls Tryz.prog 6 #[.agg #[.int .i64 k, .slice A na ca, .slice B nb cb, .slice S ns cs, .slice P np cp, .slice Q nq cq]] w (RetN w D) := toNotation_own (NV.mk k A na ca B nb cb S ns cs P np cp Q nq cq) D w hI hS
theorem eqN_x (k : Int) (A : Option Addr) (na ca : Nat) (B : Option Addr) (nb cb : Nat) (S : Option Addr) (ns cs : Nat) (P : Option Addr) (np cp : Nat) (Q : Option Addr) (nq cq : Nat) (k' : Int) (A' : Option Addr) (na' ca' : Nat) (B' : Option Addr) (nb' cb' : Nat) (S' : Option Addr) (ns' cs' : Nat) (P' : Option Addr) (np' cp' : Nat) (Q' : Option Addr) (nq' cq' : Nat) (D : ND) (w : World) (hI : NtR w (NV.mk k A na ca B nb cb S ns cs P np cp Q nq cq) D) (hJ : NtR w (NV.mk k' A' na' ca' B' nb' cb' S' ns' cs' P' np' cp' Q' nq' cq') D) :
    Calls Tryz.prog 8 #[.agg #[.int .i64 k, .slice A na ca, .slice B nb cb, .slice S ns cs, .slice P np cp, .slice Q nq cq], .agg #[.int .i64 k', .slice A' na' ca', .slice B' nb' cb', .slice S' ns' cs', .slice P' np' cp', .slice Q' nq' cq']] w (fun e w' => e = .returned (.bool true) ∧ Ext w w') := eqNotation_same (NV.mk k A na ca B nb cb S ns cs P np cp Q nq cq) (NV.mk k' A' na' ca' B' nb' cb' S' ns' cs' P' np' cp' Q' nq' cq') D w hI hJ
theorem markN_x (lo hi : Nat) (k : Int) (A : Option Addr) (na ca : Nat) (B : Option Addr) (nb cb : Nat) (S : Option Addr) (ns cs : Nat) (P : Option Addr) (np cp : Nat) (Q : Option Addr) (nq cq : Nat) (D : ND) (i : Int) (w : World) (hO : NtO w lo hi (NV.mk k A na ca B nb cb S ns cs P np cp Q nq cq) D) (hS : D.Sm) (hh : hi ≤ w.heap.size) (hi2 : 0 ≤ i ∧ i ≤ 800000000000) :
    Calls Tryz.prog 9 #[.agg #[.int .i64 k, .slice A na ca, .slice B nb cb, .slice S ns cs, .slice P np cp, .slice Q nq cq], .int .i64 i] w (MarkdN w lo hi (NV.mk k A na ca B nb cb S ns cs P np cp Q nq cq) D i) := markNotation_own lo hi (NV.mk k A na ca B nb cb S ns cs P np cp Q nq cq) D i w hO hS hh hi2
theorem heldN_x (k : Int) (A : Option Addr) (na ca : Nat) (B : Option Addr) (nb cb : Nat) (S : Option Addr) (ns cs : Nat) (P : Option Addr) (np cp : Nat) (Q : Option Addr) (nq cq : Nat) (D : ND) (i : Int) (w : World) (hI : NtR w (NV.mk k A na ca B nb cb S ns cs P np cp Q nq cq) (mkD i D)) (hS : D.Sm) (hi : 0 ≤ i ∧ i ≤ 800000000000) (hs2 : D.s.length % 2 = 0) :
    Calls Tryz.prog 10 #[.agg #[.int .i64 k, .slice A na ca, .slice B nb cb, .slice S ns cs, .slice P np cp, .slice Q nq cq], .int .i64 i] w (fun e w' => e = .returned (.int .i64 (mkE i D)) ∧ Ext w w') := heldNotation_any (NV.mk k A na ca B nb cb S ns cs P np cp Q nq cq) D i w hI hS hi hs2
namespace fnExactConvertNotation
set_option maxRecDepth 100000 in
set_option maxHeartbeats 16000000 in
theorem walk (k : Int) (A : Option Addr) (na ca : Nat) (B : Option Addr) (nb cb : Nat) (S : Option Addr) (ns cs : Nat) (P : Option Addr) (np cp : Nat) (Q : Option Addr) (nq cq : Nat) (q : Int) (D : ND) (w : World) (hI : NtR w (NV.mk k A na ca B nb cb S ns cs P np cp Q nq cq) D) :
    Calls Tryz.prog 3 #[.agg #[.int .i64 k, .slice A na ca, .slice B nb cb, .slice S ns cs, .slice P np cp, .slice Q nq cq], .int .i64 q] w fun e w' => e = .returned (.bool true) ∧ Below w.heap.size w w' := by
  have NBa0 : Hid (NBox (w.alloc (.cells #[.int .i64 k, .slice A na ca, .slice B nb cb, .slice S ns cs, .slice P np cp, .slice Q nq cq] 31)) w.heap.size (NV.mk k A na ca B nb cb S ns cs P np cp Q nq cq)) := NBox.newT w (NV.mk k A na ca B nb cb S ns cs P np cp Q nq cq) 31
  have EA : Ext w (w.alloc (.cells #[.int .i64 k, .slice A na ca, .slice B nb cb, .slice S ns cs, .slice P np cp, .slice Q nq cq] 31)) := (Ext.refl _).alloc _
  go_enter Tryz.func3, Tryz.ntmps3
  go_wp2_with fail
  (with_reducible refine (szN_x k A na ca B nb cb S ns cs P np cp Q nq cq D 1048576 _ (hI.ext EA) (by omega)).mono ?_)
  rintro e w1 ⟨q1, rfl, hq1, hx1⟩
  have NBa := Lib.hid (NBa0.out.ext hx1)
  have E1 := EA.trans hx1
  have z1 : w.heap.size < w1.heap.size := NBa.out.lt
  obtain ⟨la, a0, a1, a2, a3, a4, a5⟩ := NBa.out
  dsimp only at a0 a1 a2 a3 a4 a5
  rcases hq1 with hq1 | ⟨hq1a, hq1b, hS⟩
  · go_wp2
    go_ret
    exact ⟨rfl, Ext.below E1⟩
  have hqn : ¬ q1 < 0 := by omega
  have hBd := hI.bd hS
  have hok := cnv_ok hS hBd (by have := hI.s.len; omega) q
  obtain ⟨r, hr⟩ : ∃ r, cnv D q = r := ⟨_, rfl⟩
  rw [hr] at hok
  have HRR := Lib.hid hr
  obtain ⟨D', l, c⟩ := r
  dsimp only at hok
  obtain ⟨hS', hB'⟩ := hok
  have hm' := mkD_bd hS' (k := 1) (by omega)
  have hm := mkD_bd hS (k := 1) (by omega)
  have HM' := Lib.hid hm'
  have HM := Lib.hid hm
  have HSS := Lib.hid hS
  have HSS' := Lib.hid hS'
  have HBB := Lib.hid hBd
  have HBB' := Lib.hid hB'
  clear hr hm' hm hS hS' hBd hB' hq1a hq1b
  go_wp2_with fail
  (with_reducible refine (toN_x k A na ca B nb cb S ns cs P np cp Q nq cq D _ (hI.ext E1) HSS.out).mono ?_)
  rintro e w2 ⟨⟨k2, A2, na2, ca2, B2, nb2, cb2, S2, ns2, cs2, P2, np2, cp2, Q2, nq2, cq2⟩, rfl, hO2, hx2⟩
  have E2 := E1.trans hx2
  have z2 := hx2.size
  have R2 := hO2.read HSS.out HBB.out
  clear hO2
  have NBa_ := Lib.hid (NBa.out.ext hx2)
  clear NBa la a0 a1 a2 a3 a4 a5
  have NBa := NBa_
  clear NBa_
  obtain ⟨la, a0, a1, a2, a3, a4, a5⟩ := NBa.out
  dsimp only at a0 a1 a2 a3 a4 a5
  unfold NV.val
  dsimp only
  go_wp2_with fail
  (with_reducible refine (specConvert_x k2 A2 na2 ca2 B2 nb2 cb2 S2 ns2 cs2 P2 np2 cp2 Q2 nq2 cq2 D q _ R2).mono ?_)
  rw [HRR.out]
  rintro e w3 ⟨⟨kw, Aw, naw, caw, Bw, nbw, cbw, Sw, nsw, csw, Pw, npw, cpw, Qw, nqw, cqw⟩, rfl, hOw, hx3⟩
  have E3 := E2.trans hx3
  have z3 := hx3.size
  dsimp only at hOw
  have NBa_ := Lib.hid (NBa.out.ext hx3)
  clear NBa la a0 a1 a2 a3 a4 a5
  have NBa := NBa_
  clear NBa_
  obtain ⟨la, a0, a1, a2, a3, a4, a5⟩ := NBa.out
  dsimp only at a0 a1 a2 a3 a4 a5
  have NBv0 := Lib.hid (NBox.newT w3 (NV.mk kw Aw naw caw Bw nbw cbw Sw nsw csw Pw npw cpw Qw nqw cqw) 39)
  have X3 : Ext w3 (w3.alloc (.cells #[.int .i64 kw, .slice Aw naw caw, .slice Bw nbw cbw, .slice Sw nsw csw, .slice Pw npw cpw, .slice Qw nqw cqw] 39)) := (Ext.refl _).alloc _
  unfold NV.val
  dsimp only
  go_wp2_with fail
  (with_reducible refine (toN_x k A na ca B nb cb S ns cs P np cp Q nq cq D _ (hI.ext (E3.trans X3)) HSS.out).mono ?_)
  rintro e w4 ⟨⟨kx, Ax, nax, cax, Bx, nbx, cbx, Sx, nsx, csx, Px, npx, cpx, Qx, nqx, cqx⟩, rfl, hOx, hx4⟩
  have hx34 := X3.trans hx4
  have E4 := E3.trans hx34
  have z4 : w3.heap.size < w4.heap.size := by have := hx4.size; simp at this; omega
  have hOx4 : NtO w4 (w3.heap.size + 1) w4.heap.size (NV.mk kx Ax nax cax Bx nbx cbx Sx nsx csx Px npx cpx Qx nqx cqx) D := by simpa using hOx
  have NBv := Lib.hid (NBv0.out.ext hx4)
  clear hOx
  have NBa_ := Lib.hid (NBa.out.ext hx34)
  clear NBa la a0 a1 a2 a3 a4 a5
  have NBa := NBa_
  clear NBa_
  obtain ⟨la, a0, a1, a2, a3, a4, a5⟩ := NBa.out
  dsimp only at a0 a1 a2 a3 a4 a5
  obtain ⟨lv, v0, v1, v2, v3, v4, v5⟩ := NBv.out
  dsimp only at v0 v1 v2 v3 v4 v5
  have NBx0 := Lib.hid (NBox.newT w4 (NV.mk kx Ax nax cax Bx nbx cbx Sx nsx csx Px npx cpx Qx nqx cqx) 39)
  have X4 : Ext w4 (w4.alloc (.cells #[.int .i64 kx, .slice Ax nax cax, .slice Bx nbx cbx, .slice Sx nsx csx, .slice Px npx cpx, .slice Qx nqx cqx] 39)) := (Ext.refl _).alloc _
  unfold NV.val
  dsimp only
  have Rx4 := hOx4.read HSS.out HBB.out
  go_wp2_with fail
  (with_reducible refine (implConvert_x kx Ax nax cax Bx nbx cbx Sx nsx csx Px npx cpx Qx nqx cqx D q _ (Rx4.ext X4) (Rx4.pq HSS.out)).mono ?_)
  rw [HRR.out]
  rintro e w5 ⟨⟨kg, Ag, nag, cag, Bg, nbg, cbg, Sg, nsg, csg, Pg, npg, cpg, Qg, nqg, cqg⟩, rfl, hOg, hx5⟩
  dsimp only at hOg
  have hx45 := X4.trans hx5
  have E5 := E4.trans hx45
  have z5 : w4.heap.size < w5.heap.size := by have := hx5.size; simp at this; omega
  have hOg5 : NtO w5 (w4.heap.size + 1) w5.heap.size (NV.mk kg Ag nag cag Bg nbg cbg Sg nsg csg Pg npg cpg Qg nqg cqg) D' := by simpa using hOg
  have NBx := Lib.hid (NBx0.out.ext hx5)
  clear hOg
  have NBa_ := Lib.hid (NBa.out.ext hx45)
  clear NBa la a0 a1 a2 a3 a4 a5
  have NBa := NBa_
  clear NBa_
  have NBv_ := Lib.hid (NBv.out.ext hx45)
  clear NBv lv v0 v1 v2 v3 v4 v5
  have NBv := NBv_
  clear NBv_
  obtain ⟨la, a0, a1, a2, a3, a4, a5⟩ := NBa.out
  dsimp only at a0 a1 a2 a3 a4 a5
  obtain ⟨lv, v0, v1, v2, v3, v4, v5⟩ := NBv.out
  dsimp only at v0 v1 v2 v3 v4 v5
  obtain ⟨lx, x0, x1, x2, x3, x4, x5⟩ := NBx.out
  dsimp only at x0 x1 x2 x3 x4 x5
  have NBg0 := Lib.hid (NBox.newT w5 (NV.mk kg Ag nag cag Bg nbg cbg Sg nsg csg Pg npg cpg Qg nqg cqg) 39)
  have X5 : Ext w5 (w5.alloc (.cells #[.int .i64 kg, .slice Ag nag cag, .slice Bg nbg cbg, .slice Sg nsg csg, .slice Pg npg cpg, .slice Qg nqg cqg] 39)) := (Ext.refl _).alloc _
  unfold NV.val
  dsimp only
  have hll : (l.toList == l.toList) = true := beq_self_eq_true _
  have Rg5 := hOg5.read HSS'.out HBB'.out
  have Rw5 := ((hOw.read HSS'.out HBB'.out).ext hx34).ext hx45
  go_wp2_with fail
  (with_reducible refine (eqN_x kg Ag nag cag Bg nbg cbg Sg nsg csg Pg npg cpg Qg nqg cqg kw Aw naw caw Bw nbw cbw Sw nsw csw Pw npw cpw Qw nqw cqw D' _ (Rg5.ext X5) (Rw5.ext X5)).mono ?_)
  rintro e w6 ⟨rfl, hx6⟩
  have hx56 := X5.trans hx6
  have E6 := E5.trans hx56
  have z6 : w5.heap.size < w6.heap.size := by have := hx6.size; simp at this; omega
  have NBg := Lib.hid (NBg0.out.ext hx6)
  have NBa_ := Lib.hid (NBa.out.ext hx56)
  clear NBa la a0 a1 a2 a3 a4 a5
  have NBa := NBa_
  clear NBa_
  have NBv_ := Lib.hid (NBv.out.ext hx56)
  clear NBv lv v0 v1 v2 v3 v4 v5
  have NBv := NBv_
  clear NBv_
  have NBx_ := Lib.hid (NBx.out.ext hx56)
  clear NBx lx x0 x1 x2 x3 x4 x5
  have NBx := NBx_
  clear NBx_
  obtain ⟨la, a0, a1, a2, a3, a4, a5⟩ := NBa.out
  dsimp only at a0 a1 a2 a3 a4 a5
  obtain ⟨lv, v0, v1, v2, v3, v4, v5⟩ := NBv.out
  dsimp only at v0 v1 v2 v3 v4 v5
  obtain ⟨lx, x0, x1, x2, x3, x4, x5⟩ := NBx.out
  dsimp only at x0 x1 x2 x3 x4 x5
  obtain ⟨lg, g0, g1, g2, g3, g4, g5⟩ := NBg.out
  dsimp only at g0 g1 g2 g3 g4 g5
  go_wp2_with fail
  go_region_held3 (fun wz => wz.cell? ⟨w4.heap.size, 0, none⟩ = some (.int .i64 kx) ∧ wz.cell? ⟨w4.heap.size, 1, none⟩ = some (.slice Ax nax cax) ∧ wz.cell? ⟨w4.heap.size, 2, none⟩ = some (.slice Bx nbx cbx) ∧ wz.cell? ⟨w4.heap.size, 3, none⟩ = some (.slice Sx nsx csx) ∧ wz.cell? ⟨w4.heap.size, 4, none⟩ = some (.slice Px npx cpx) ∧ wz.cell? ⟨w4.heap.size, 5, none⟩ = some (.slice Qx nqx cqx) ∧ wz.cell? ⟨w.heap.size, 0, none⟩ = some (.int .i64 k) ∧ wz.cell? ⟨w.heap.size, 1, none⟩ = some (.slice A na ca) ∧ wz.cell? ⟨w.heap.size, 2, none⟩ = some (.slice B nb cb) ∧ wz.cell? ⟨w.heap.size, 3, none⟩ = some (.slice S ns cs) ∧ wz.cell? ⟨w.heap.size, 4, none⟩ = some (.slice P np cp) ∧ wz.cell? ⟨w.heap.size, 5, none⟩ = some (.slice Q nq cq)) (exact ⟨(NBx.out.ext (show Ext w6 _ from (by with_reducible (repeat (first | exact Ext.refl _ | apply Ext.drewN | apply Ext.drew | apply Ext.alloc | (refine Ext.set ?_ (by first | (simp; done) | (simp; omega) | omega) _) | (refine Ext.trans ?_ (by assumption))))))).c0, (NBx.out.ext (show Ext w6 _ from (by with_reducible (repeat (first | exact Ext.refl _ | apply Ext.drewN | apply Ext.drew | apply Ext.alloc | (refine Ext.set ?_ (by first | (simp; done) | (simp; omega) | omega) _) | (refine Ext.trans ?_ (by assumption))))))).c1, (NBx.out.ext (show Ext w6 _ from (by with_reducible (repeat (first | exact Ext.refl _ | apply Ext.drewN | apply Ext.drew | apply Ext.alloc | (refine Ext.set ?_ (by first | (simp; done) | (simp; omega) | omega) _) | (refine Ext.trans ?_ (by assumption))))))).c2, (NBx.out.ext (show Ext w6 _ from (by with_reducible (repeat (first | exact Ext.refl _ | apply Ext.drewN | apply Ext.drew | apply Ext.alloc | (refine Ext.set ?_ (by first | (simp; done) | (simp; omega) | omega) _) | (refine Ext.trans ?_ (by assumption))))))).c3, (NBx.out.ext (show Ext w6 _ from (by with_reducible (repeat (first | exact Ext.refl _ | apply Ext.drewN | apply Ext.drew | apply Ext.alloc | (refine Ext.set ?_ (by first | (simp; done) | (simp; omega) | omega) _) | (refine Ext.trans ?_ (by assumption))))))).c4, (NBx.out.ext (show Ext w6 _ from (by with_reducible (repeat (first | exact Ext.refl _ | apply Ext.drewN | apply Ext.drew | apply Ext.alloc | (refine Ext.set ?_ (by first | (simp; done) | (simp; omega) | omega) _) | (refine Ext.trans ?_ (by assumption))))))).c5, (NBa.out.ext (show Ext w6 _ from (by with_reducible (repeat (first | exact Ext.refl _ | apply Ext.drewN | apply Ext.drew | apply Ext.alloc | (refine Ext.set ?_ (by first | (simp; done) | (simp; omega) | omega) _) | (refine Ext.trans ?_ (by assumption))))))).c0, (NBa.out.ext (show Ext w6 _ from (by with_reducible (repeat (first | exact Ext.refl _ | apply Ext.drewN | apply Ext.drew | apply Ext.alloc | (refine Ext.set ?_ (by first | (simp; done) | (simp; omega) | omega) _) | (refine Ext.trans ?_ (by assumption))))))).c1, (NBa.out.ext (show Ext w6 _ from (by with_reducible (repeat (first | exact Ext.refl _ | apply Ext.drewN | apply Ext.drew | apply Ext.alloc | (refine Ext.set ?_ (by first | (simp; done) | (simp; omega) | omega) _) | (refine Ext.trans ?_ (by assumption))))))).c2, (NBa.out.ext (show Ext w6 _ from (by with_reducible (repeat (first | exact Ext.refl _ | apply Ext.drewN | apply Ext.drew | apply Ext.alloc | (refine Ext.set ?_ (by first | (simp; done) | (simp; omega) | omega) _) | (refine Ext.trans ?_ (by assumption))))))).c3, (NBa.out.ext (show Ext w6 _ from (by with_reducible (repeat (first | exact Ext.refl _ | apply Ext.drewN | apply Ext.drew | apply Ext.alloc | (refine Ext.set ?_ (by first | (simp; done) | (simp; omega) | omega) _) | (refine Ext.trans ?_ (by assumption))))))).c4, (NBa.out.ext (show Ext w6 _ from (by with_reducible (repeat (first | exact Ext.refl _ | apply Ext.drewN | apply Ext.drew | apply Ext.alloc | (refine Ext.set ?_ (by first | (simp; done) | (simp; omega) | omega) _) | (refine Ext.trans ?_ (by assumption))))))).c5⟩) (first | (go_at_call 6; (with_reducible refine (toN_x k A na ca B nb cb S ns cs P np cp Q nq cq D _ (hI.ext (E6.trans (by with_reducible (repeat (first | exact Ext.refl _ | apply Ext.drewN | apply Ext.drew | apply Ext.alloc | (refine Ext.set ?_ (by first | (simp; done) | (simp; omega) | omega) _) | (refine Ext.trans ?_ (by assumption))))))) HSS.out).mono ?_); rintro e w7 ⟨⟨k7, A7, na7, ca7, B7, nb7, cb7, S7, ns7, cs7, P7, np7, cp7, Q7, nq7, cq7⟩, rfl, hO7, hx7⟩; have R7 := hO7.read HSS.out HBB.out; unfold NV.val; dsimp only) | (go_at_call 8; (with_reducible refine (eqN_x kx Ax nax cax Bx nbx cbx Sx nsx csx Px npx cpx Qx nqx cqx k7 A7 na7 ca7 B7 nb7 cb7 S7 ns7 cs7 P7 np7 cp7 Q7 nq7 cq7 D _ ((((Rx4.ext hx45).ext hx56).ext (by with_reducible (repeat (first | exact Ext.refl _ | apply Ext.drewN | apply Ext.drew | apply Ext.alloc | (refine Ext.set ?_ (by first | (simp; done) | (simp; omega) | omega) _) | (refine Ext.trans ?_ (by assumption))))))) (R7.ext (by with_reducible (repeat (first | exact Ext.refl _ | apply Ext.drewN | apply Ext.drew | apply Ext.alloc | (refine Ext.set ?_ (by first | (simp; done) | (simp; omega) | omega) _) | (refine Ext.trans ?_ (by assumption))))))).mono ?_); rintro e w8 ⟨rfl, hx8⟩))
  have hx68 : Ext w6 w8 := Ext.trans (Ext.trans (by with_reducible (repeat (first | exact Ext.refl _ | apply Ext.drewN | apply Ext.drew | apply Ext.alloc | (refine Ext.set ?_ (by first | (simp; done) | (simp; omega) | omega) _) | (refine Ext.trans ?_ (by assumption))))) hx7) hx8
  have E8 := E6.trans hx68
  have z8 := hx68.size
  clear hO7 R7 hx7 hx8
  have NBa_ := Lib.hid (NBa.out.ext hx68)
  clear NBa la a0 a1 a2 a3 a4 a5
  have NBa := NBa_
  clear NBa_
  have NBv_ := Lib.hid (NBv.out.ext hx68)
  clear NBv lv v0 v1 v2 v3 v4 v5
  have NBv := NBv_
  clear NBv_
  have NBx_ := Lib.hid (NBx.out.ext hx68)
  clear NBx lx x0 x1 x2 x3 x4 x5
  have NBx := NBx_
  clear NBx_
  have NBg_ := Lib.hid (NBg.out.ext hx68)
  clear NBg lg g0 g1 g2 g3 g4 g5
  have NBg := NBg_
  clear NBg_
  obtain ⟨la, a0, a1, a2, a3, a4, a5⟩ := NBa.out
  dsimp only at a0 a1 a2 a3 a4 a5
  obtain ⟨lv, v0, v1, v2, v3, v4, v5⟩ := NBv.out
  dsimp only at v0 v1 v2 v3 v4 v5
  obtain ⟨lx, x0, x1, x2, x3, x4, x5⟩ := NBx.out
  dsimp only at x0 x1 x2 x3 x4 x5
  obtain ⟨lg, g0, g1, g2, g3, g4, g5⟩ := NBg.out
  dsimp only at g0 g1 g2 g3 g4 g5
  have hOx8 := (((hOx4.ext hx45).ext hx56).ext hx68)
  have hOg8 := ((hOg5.ext hx56).ext hx68)
  have hOw8 := ((((hOw.ext hx34).ext hx45).ext hx56).ext hx68)
  have hev := hOg5.even
  have hmk := HM.out.2.2
  have hmk' := HM'.out.2.2
  clear hOx4 hOg5 hOw Rx4 Rg5 Rw5
  go_wp2_with fail
  (with_reducible refine (markN_x (w3.heap.size + 1) w4.heap.size kx Ax nax cax Bx nbx cbx Sx nsx csx Px npx cpx Qx nqx cqx D 1 _ hOx8 HSS.out (by omega) (by omega)).mono ?_)
  rintro e w9 ⟨rfl, kp9, -⟩
  have E9 : Ext w w9 := kp9.ext E8 (by omega)
  have z9 := kp9.size
  have hOg9 := hOg8.held kp9 (by omega)
  have hOw9 := hOw8.held kp9 (by omega)
  clear NBx lx x0 x1 x2 x3 x4 x5 hOx8 hOg8 hOw8
  have NBa_ := Lib.hid (NBa.out.held kp9 (by omega))
  clear NBa la a0 a1 a2 a3 a4 a5
  have NBa := NBa_
  clear NBa_
  have NBv_ := Lib.hid (NBv.out.held kp9 (by omega))
  clear NBv lv v0 v1 v2 v3 v4 v5
  have NBv := NBv_
  clear NBv_
  have NBg_ := Lib.hid (NBg.out.held kp9 (by omega))
  clear NBg lg g0 g1 g2 g3 g4 g5
  have NBg := NBg_
  clear NBg_
  obtain ⟨la, a0, a1, a2, a3, a4, a5⟩ := NBa.out
  dsimp only at a0 a1 a2 a3 a4 a5
  obtain ⟨lv, v0, v1, v2, v3, v4, v5⟩ := NBv.out
  dsimp only at v0 v1 v2 v3 v4 v5
  obtain ⟨lg, g0, g1, g2, g3, g4, g5⟩ := NBg.out
  dsimp only at g0 g1 g2 g3 g4 g5
  obtain ⟨kk, hkk⟩ : ∃ kk, mkE 1 D = kk := ⟨_, rfl⟩
  rw [hkk] at hmk ⊢
  clear hkk
  have hkn : ¬ kk < 0 := by omega
  have Rg9 := hOg9.read HSS'.out HBB'.out
  have Rw9 := hOw9.read HSS'.out HBB'.out
  go_wp2_with fail
  (with_reducible refine (eqN_x kg Ag nag cag Bg nbg cbg Sg nsg csg Pg npg cpg Qg nqg cqg kw Aw naw caw Bw nbw cbw Sw nsw csw Pw npw cpw Qw nqw cqw D' _ Rg9 Rw9).mono ?_)
  rintro e w10 ⟨rfl, hx10⟩
  have E10 := E9.trans hx10
  have z10 := hx10.size
  have hOg10 := hOg9.ext hx10
  have hOw10 := hOw9.ext hx10
  clear Rg9 Rw9 hOg9 hOw9
  have NBa_ := Lib.hid (NBa.out.ext hx10)
  clear NBa la a0 a1 a2 a3 a4 a5
  have NBa := NBa_
  clear NBa_
  have NBv_ := Lib.hid (NBv.out.ext hx10)
  clear NBv lv v0 v1 v2 v3 v4 v5
  have NBv := NBv_
  clear NBv_
  have NBg_ := Lib.hid (NBg.out.ext hx10)
  clear NBg lg g0 g1 g2 g3 g4 g5
  have NBg := NBg_
  clear NBg_
  obtain ⟨la, a0, a1, a2, a3, a4, a5⟩ := NBa.out
  dsimp only at a0 a1 a2 a3 a4 a5
  obtain ⟨lv, v0, v1, v2, v3, v4, v5⟩ := NBv.out
  dsimp only at v0 v1 v2 v3 v4 v5
  obtain ⟨lg, g0, g1, g2, g3, g4, g5⟩ := NBg.out
  dsimp only at g0 g1 g2 g3 g4 g5
  go_wp2_with fail
  (with_reducible refine (markN_x (w4.heap.size + 1) w5.heap.size kg Ag nag cag Bg nbg cbg Sg nsg csg Pg npg cpg Qg nqg cqg D' 1 _ hOg10 HSS'.out (by omega) (by omega)).mono ?_)
  rintro e w11 ⟨rfl, kp11, hOg11⟩
  have E11 : Ext w w11 := kp11.ext E10 (by omega)
  have z11 := kp11.size
  have hOw11 := hOw10.held kp11 (by omega)
  have Rg11 := hOg11.read HM'.out.1 HM'.out.2.1
  have Rw11 := hOw11.read HSS'.out HBB'.out
  clear hOg10 hOw10 hOg11 hOw11
  have NBa_ := Lib.hid (NBa.out.held kp11 (by omega))
  clear NBa la a0 a1 a2 a3 a4 a5
  have NBa := NBa_
  clear NBa_
  have NBv_ := Lib.hid (NBv.out.held kp11 (by omega))
  clear NBv lv v0 v1 v2 v3 v4 v5
  have NBv := NBv_
  clear NBv_
  have NBg_ := Lib.hid (NBg.out.held kp11 (by omega))
  clear NBg lg g0 g1 g2 g3 g4 g5
  have NBg := NBg_
  clear NBg_
  obtain ⟨la, a0, a1, a2, a3, a4, a5⟩ := NBa.out
  dsimp only at a0 a1 a2 a3 a4 a5
  obtain ⟨lv, v0, v1, v2, v3, v4, v5⟩ := NBv.out
  dsimp only at v0 v1 v2 v3 v4 v5
  obtain ⟨lg, g0, g1, g2, g3, g4, g5⟩ := NBg.out
  dsimp only at g0 g1 g2 g3 g4 g5
  go_wp2_with fail
  (with_reducible refine (heldN_x kg Ag nag cag Bg nbg cbg Sg nsg csg Pg npg cpg Qg nqg cqg D' 1 _ Rg11 HSS'.out (by omega) hev).mono ?_)
  rintro e w12 ⟨rfl, hx12⟩
  have E12 := E11.trans hx12
  have z12 := hx12.size
  have NBa_ := Lib.hid (NBa.out.ext hx12)
  clear NBa la a0 a1 a2 a3 a4 a5
  have NBa := NBa_
  clear NBa_
  have NBv_ := Lib.hid (NBv.out.ext hx12)
  clear NBv lv v0 v1 v2 v3 v4 v5
  have NBv := NBv_
  clear NBv_
  have NBg_ := Lib.hid (NBg.out.ext hx12)
  clear NBg lg g0 g1 g2 g3 g4 g5
  have NBg := NBg_
  clear NBg_
  obtain ⟨la, a0, a1, a2, a3, a4, a5⟩ := NBa.out
  dsimp only at a0 a1 a2 a3 a4 a5
  obtain ⟨lv, v0, v1, v2, v3, v4, v5⟩ := NBv.out
  dsimp only at v0 v1 v2 v3 v4 v5
  obtain ⟨lg, g0, g1, g2, g3, g4, g5⟩ := NBg.out
  dsimp only at g0 g1 g2 g3 g4 g5
  obtain ⟨kk', hkk'⟩ : ∃ kk, mkE 1 D' = kk := ⟨_, rfl⟩
  have HKK := Lib.hid hkk'
  rw [hkk'] at hmk' ⊢
  clear hkk'
  have hkn' : ¬ kk' < 0 := by omega
  go_wp2_with fail
  (with_reducible refine (toN_x k A na ca B nb cb S ns cs P np cp Q nq cq D _ (hI.ext E12) HSS.out).mono ?_)
  rintro e w13 ⟨⟨k3, A3, na3, ca3, B3, nb3, cb3, S3, ns3, cs3, P3, np3, cp3, Q3, nq3, cq3⟩, rfl, hO13, hx13⟩
  have E13 := E12.trans hx13
  have R13 := hO13.read HSS.out HBB.out
  clear hO13
  have NBa_ := Lib.hid (NBa.out.ext hx13)
  clear NBa la a0 a1 a2 a3 a4 a5
  have NBa := NBa_
  clear NBa_
  have NBv_ := Lib.hid (NBv.out.ext hx13)
  clear NBv lv v0 v1 v2 v3 v4 v5
  have NBv := NBv_
  clear NBv_
  have NBg_ := Lib.hid (NBg.out.ext hx13)
  clear NBg lg g0 g1 g2 g3 g4 g5
  have NBg := NBg_
  clear NBg_
  obtain ⟨la, a0, a1, a2, a3, a4, a5⟩ := NBa.out
  dsimp only at a0 a1 a2 a3 a4 a5
  obtain ⟨lv, v0, v1, v2, v3, v4, v5⟩ := NBv.out
  dsimp only at v0 v1 v2 v3 v4 v5
  obtain ⟨lg, g0, g1, g2, g3, g4, g5⟩ := NBg.out
  dsimp only at g0 g1 g2 g3 g4 g5
  unfold NV.val
  dsimp only
  go_wp2_with fail
  (with_reducible refine (implConvert_x k3 A3 na3 ca3 B3 nb3 cb3 S3 ns3 cs3 P3 np3 cp3 Q3 nq3 cq3 D q _ R13 (R13.pq HSS.out)).mono ?_)
  rw [HRR.out]
  rintro e w14 ⟨⟨kh, Ah, nah, cah, Bh, nbh, cbh, Sh, nsh, csh, Ph, nph, cph, Qh, nqh, cqh⟩, rfl, hOh, hx14⟩
  dsimp only at hOh
  have E14 := E13.trans hx14
  have Rh := hOh.read HSS'.out HBB'.out
  clear hOh R13
  have NBa_ := Lib.hid (NBa.out.ext hx14)
  clear NBa la a0 a1 a2 a3 a4 a5
  have NBa := NBa_
  clear NBa_
  have NBv_ := Lib.hid (NBv.out.ext hx14)
  clear NBv lv v0 v1 v2 v3 v4 v5
  have NBv := NBv_
  clear NBv_
  have NBg_ := Lib.hid (NBg.out.ext hx14)
  clear NBg lg g0 g1 g2 g3 g4 g5
  have NBg := NBg_
  clear NBg_
  obtain ⟨la, a0, a1, a2, a3, a4, a5⟩ := NBa.out
  dsimp only at a0 a1 a2 a3 a4 a5
  obtain ⟨lv, v0, v1, v2, v3, v4, v5⟩ := NBv.out
  dsimp only at v0 v1 v2 v3 v4 v5
  obtain ⟨lg, g0, g1, g2, g3, g4, g5⟩ := NBg.out
  dsimp only at g0 g1 g2 g3 g4 g5
  have NBh0 := Lib.hid (NBox.newT w14 (NV.mk kh Ah nah cah Bh nbh cbh Sh nsh csh Ph nph cph Qh nqh cqh) 39)
  have X14 : Ext w14 (w14.alloc (.cells #[.int .i64 kh, .slice Ah nah cah, .slice Bh nbh cbh, .slice Sh nsh csh, .slice Ph nph cph, .slice Qh nqh cqh] 39)) := (Ext.refl _).alloc _
  unfold NV.val
  dsimp only
  go_wp2_with fail
  (with_reducible refine (eqN_x kh Ah nah cah Bh nbh cbh Sh nsh csh Ph nph cph Qh nqh cqh kw Aw naw caw Bw nbw cbw Sw nsw csw Pw npw cpw Qw nqw cqw D' _ (Rh.ext X14) ((((Rw11.ext hx12).ext hx13).ext hx14).ext X14)).mono ?_)
  rintro e w15 ⟨rfl, hx15⟩
  have hx145 := X14.trans hx15
  have E15 := E14.trans hx145
  have NBa_ := Lib.hid (NBa.out.ext hx145)
  clear NBa la a0 a1 a2 a3 a4 a5
  have NBa := NBa_
  clear NBa_
  have NBv_ := Lib.hid (NBv.out.ext hx145)
  clear NBv lv v0 v1 v2 v3 v4 v5
  have NBv := NBv_
  clear NBv_
  have NBg_ := Lib.hid (NBg.out.ext hx145)
  clear NBg lg g0 g1 g2 g3 g4 g5
  have NBg := NBg_
  clear NBg_
  obtain ⟨la, a0, a1, a2, a3, a4, a5⟩ := NBa.out
  dsimp only at a0 a1 a2 a3 a4 a5
  obtain ⟨lv, v0, v1, v2, v3, v4, v5⟩ := NBv.out
  dsimp only at v0 v1 v2 v3 v4 v5
  obtain ⟨lg, g0, g1, g2, g3, g4, g5⟩ := NBg.out
  dsimp only at g0 g1 g2 g3 g4 g5
  go_wp2_with fail
  (with_reducible refine (heldN_x kg Ag nag cag Bg nbg cbg Sg nsg csg Pg npg cpg Qg nqg cqg D' 1 _ ((((Rg11.ext hx12).ext hx13).ext hx14).ext hx145) HSS'.out (by omega) hev).mono ?_)
  rw [HKK.out]
  rintro e w16 ⟨rfl, hx16⟩
  have E16 := E15.trans hx16
  go_wp2
  go_ret
  exact ⟨rfl, Ext.below E16⟩
end fnExactConvertNotation
end Go.Proofs.YtohmnilkmljioaaGreat

namespace Go.Proofs.YtohmnilkmljioaaGreat
set_option linter.unusedVariables false
set_option linter.unusedSimpArgs false
open Go.ChangeShapes Go.WideShapes Go.ChangeAt Go.RowKit Go.Joins Go.Deep

section
variable {H : Type} {enc : TypeId × Value → H} {P : Program} {w : World} {base : Nat} {spare : Nat → Bool} {held : Bool}
theorem ints_of_trod {t e : TypeId} {fuel : Nat} {v : Value} {x : DataW H × List MemPlace} (ht : P.underlying t = some (.slice e)) (he : P.underlying e = some (.int .i64)) (hc : P.cellsOf e = 1)
    (hs : ∀ b, spare b = true) (h : DataW.trod enc P w base spare held fuel t [v] = some x) : ∃ B m c xs, v = .slice B m c ∧ Ints w B m xs := by
  rcases open_ints ht he hc h with ⟨hcs, hx⟩ | ⟨a, len, cap, zs, hcs, _, hl, hm, hz, hx, hcell, hwz⟩
  · obtain rfl : v = .slice none 0 0 := by simpa using hcs
    exact ⟨none, 0, 0, [], rfl, Ints.nil _ _⟩
  · obtain rfl : v = .slice (some a) len cap := by simpa using hcs
    rw [hs a.block] at hz
    simp only [if_true] at hz
    unfold maxLen at hm
    refine ⟨some a, len, cap, zs.take len, rfl, by simp; omega, by omega, fun x hx => bounds_i64 (hwz x (List.mem_of_mem_take hx)), fun hn => ?_⟩
    obtain ⟨b, off, rfl, hcc⟩ := ints_at hcell (by omega)
    refine ⟨b, off, rfl, cell_lt (hcc 0 (by omega)), fun i hi => ?_⟩
    rw [hcc i (by omega)]
    simp [hi]
/-- An argument's reading: a slice of slices of numbers. -/
theorem lists_of_trod {t e te : TypeId} {fuel : Nat} {v : Value} {x : DataW H × List MemPlace} (ht : P.underlying t = some (.slice e)) (he : P.underlying e = some (.slice te)) (hte : P.underlying te = some (.int .i64)) (hce : P.cellsOf te = 1) (hC : P.cellsOf e = 1)
    (hs : ∀ b, spare b = true) (h : DataW.trod enc P w base spare held fuel t [v] = some x) : ∃ A n c L, v = .slice A n c ∧ Lists w A n L := by
  rcases open_slice ht h with ⟨hcs, hx⟩ | ⟨a, len, cap, m, n, D, Pl, hcs, hb, hl, hm, hmm, hx, hi⟩
  · obtain rfl : v = .slice none 0 0 := by simpa using hcs
    exact ⟨none, 0, 0, [], rfl, ⟨rfl, by omega, fun hn => absurd hn (by omega)⟩⟩
  · obtain rfl : v = .slice (some a) len cap := by simpa using hcs
    rw [hs a.block] at hmm
    simp only [if_true] at hmm
    subst hmm
    unfold maxLen at hm
    have key : ∀ i, i < len → ∃ q : List Int, ∃ (B : Option Addr) (m c : Nat), w.cell? (a.add i) = some (.slice B m c) ∧ Ints w B m q := by
      intro i hil
      obtain ⟨cs', hc, ht'⟩ := hi i (by omega)
      rw [hC] at hc
      obtain ⟨_, hcl, hat⟩ := World.cells?_some hc
      match cs', hcl with
      | [u0], _ =>
        obtain ⟨B, mm, c, zs, rfl, hz⟩ := ints_of_trod (v := u0) he hte hce hs ht'
        have c0 := hat 0 (by omega)
        rw [Go.Deep.add_add] at c0
        exact ⟨zs, B, mm, c, by simpa using c0, hz⟩
    obtain ⟨f, hf⟩ := Go.Deep.choose_lt (α := List Int) key
    refine ⟨some a, len, _, (List.range len).map f, rfl, by simp, by omega, fun hn => ?_⟩
    · obtain ⟨b, off, spot⟩ := a
      have hspot : spot = none := by
        obtain ⟨B, m, c, e1, _⟩ := hf 0 hn
        simpa [Addr.add] using World.cell?_spot e1
      subst hspot
      have hlt : b < w.heap.size := by
        obtain ⟨B, m, c, e1, _⟩ := hf 0 hn
        rw [addr_add] at e1
        exact cell_lt e1
      refine ⟨b, off, rfl, hlt, fun i hi => ?_⟩
      obtain ⟨B, m, c, e1, e3⟩ := hf i hi
      rw [addr_add] at e1
      refine ⟨B, m, c, e1, ?_⟩
      unfold ll
      simpa [hi] using e3
theorem array6 {α : Type} {xs : Array α} (h : xs.size = 6) : ∃ a b c d e f, xs = #[a, b, c, d, e, f] := by
  obtain ⟨l⟩ := xs
  match l, h with
  | [a, b, c, d, e, f], _ => exact ⟨a, b, c, d, e, f, rfl⟩
end
set_option maxRecDepth 100000 in
/-- A notation's reading. -/
theorem note_of_trod {H : Type} {enc : TypeId × Value → H} {w : World} {base : Nat} {spare : Nat → Bool} {held : Bool} {r : Reach} {b0 : Nat} {v : Value} {d : DataW H} {p : List MemPlace}
    (hs : ∀ b, spare b = true) (hv : Value.okWide Tryz.prog w r b0 31 v) (h : DataW.Trod enc Tryz.prog w base spare held 31 v d p) :
    ∃ (k : Int) (A : Option Addr) (na ca : Nat) (B : Option Addr) (nb cb : Nat) (S : Option Addr) (ns cs : Nat) (P : Option Addr) (np cp : Nat) (Q : Option Addr) (nq cq : Nat) (D : ND),
      v = .agg #[.int .i64 k, .slice A na ca, .slice B nb cb, .slice S ns cs, .slice P np cp, .slice Q nq cq] ∧ NtR w (NV.mk k A na ca B nb cb S ns cs P np cp Q nq cq) D := by
  obtain ⟨cs, rfl, hsz⟩ := okWide_struct Tryz.underlying31 hv
  obtain ⟨u0, u1, u2, u3, u4, u5, rfl⟩ := array6 (hsz.trans (by kernel_rfl))
  obtain ⟨fuel, hf⟩ := h
  obtain ⟨ys, n', hn', hy, hlen, hyl, hg⟩ := DataW.trod_struct Tryz.underlying31 hf
  have C0 : Tryz.prog.cellsOf 2 = 1 := by kernel_rfl
  have C1 : Tryz.prog.cellsOf 22 = 1 := by kernel_rfl
  have C2 : Tryz.prog.cellsOf 25 = 1 := by kernel_rfl
  have C3 : Tryz.prog.cellsOf 26 = 1 := by kernel_rfl
  have C4 : Tryz.prog.cellsOf 29 = 2 := by kernel_rfl
  have C5 : Tryz.prog.cellsOf 23 = 1 := by kernel_rfl
  have C6 : Tryz.prog.cellsOf 27 = 1 := by kernel_rfl
  match ys, hyl with
  | [y0, y1, y2, y3, y4], _ =>
    have g0 := hg 0 _ rfl
    have g1 := hg 1 _ rfl
    have g2 := hg 2 _ rfl
    have g3 := hg 3 _ rfl
    have g4 := hg 4 _ rfl
    clear hg
    simp only [List.getElem_toArray, List.getElem_cons_zero, List.getElem_cons_succ] at g0 g1 g2 g3 g4
    rw [C0] at g0
    rw [C1] at g1
    rw [C2] at g2
    rw [C3] at g3
    rw [C4] at g4
    simp only [Value.cells, List.drop_zero, List.drop_succ_cons, List.take_succ_cons, List.take_zero, List.getElem?_cons_zero, List.getElem?_cons_succ] at g0 g1 g2 g3 g4
    obtain ⟨k, hk, _, _⟩ := DataW.trod_int (cs := [u0]) Tryz.underlying2 g0
    obtain rfl : u0 = .int .i64 k := by simpa using hk
    obtain ⟨A, na, ca, xs, rfl, I1⟩ := ints_of_trod Tryz.underlying22 Tryz.underlying2 C0 hs g1
    obtain ⟨z0, m2, hx2, _, h2⟩ := trod_struct1 Tryz.underlying25 g2
    dsimp only at h2
    rw [C5] at h2
    simp only [List.drop_zero, List.take_succ_cons, List.take_zero] at h2
    obtain ⟨B, nb, cb, L, rfl, I2⟩ := lists_of_trod Tryz.underlying23 Tryz.underlying22 Tryz.underlying2 C0 C1 hs h2
    obtain ⟨S, ns, cs, ss, rfl, I3⟩ := syn_of_trod Tryz.underlying26 Tryz.underlying102 (by kernel_rfl) rfl rfl rfl rfl (by kernel_rfl) Tryz.underlying100 (by kernel_rfl) rfl rfl Tryz.underlying2 Tryz.underlying4 hs g3
    obtain ⟨z1, z2, m4, hx4, _, h4, h5⟩ := trod_struct2 Tryz.underlying29 g4
    dsimp only at h4 h5
    rw [C6] at h4 h5
    simp only [List.drop_zero, List.drop_succ_cons, List.take_succ_cons, List.take_zero] at h4 h5
    obtain ⟨P, np, cp, ps, rfl, I4⟩ := thr_of_trod Tryz.underlying27 Tryz.underlying133 (by kernel_rfl) (by kernel_rfl) rfl rfl Tryz.underlying2 Tryz.underlying4 hs h4
    obtain ⟨Q, nq, cq, qs, rfl, I5⟩ := thr_of_trod Tryz.underlying27 Tryz.underlying133 (by kernel_rfl) (by kernel_rfl) rfl rfl Tryz.underlying2 Tryz.underlying4 hs h5
    exact ⟨k, A, na, ca, B, nb, cb, S, ns, cs, P, np, cp, Q, nq, cq, ND.mk k xs L ss ps qs, rfl, rfl, I1, I2, I3, I4, I5⟩
end Go.Proofs.YtohmnilkmljioaaGreat
