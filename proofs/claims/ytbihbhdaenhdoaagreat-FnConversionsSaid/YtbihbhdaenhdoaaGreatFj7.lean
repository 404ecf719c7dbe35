/- Cvx Cvl in one text (a claim has at most 60 files). No condition but the stated bounds. -/
import Derived.Test.YtbihbhdaenhdoaaGreatCpA
import Derived.Test.YtbihbhdaenhdoaaGreatCpB
import Derived.Test.YtbihbhdaenhdoaaGreatCqx
import Derived.Test.YtbihbhdaenhdoaaGreatFj8
import Derived.Test.YtbihbhdaenhdoaaGreatPux
import Derived.Test.YtbihbhdaenhdoaaGreatMlo
import Derived.Test.YtbihbhdaenhdoaaGreatTog
import Derived.Deep.RegionHeld3
namespace Go.Proofs.YtbihbhdaenhdoaaGreat
set_option linter.unusedVariables false
set_option linter.unusedSimpArgs false
open Go.ChangeShapes Go.WideShapes Go.ChangeAt Go.RowKit Go.Joins Go.Deep

def tJT : ByteArray := { data := #[106, 117, 103, 103, 108, 101, 114, 43, 116, 105, 109, 105, 110, 103] }
/-- What is lost in two steps, the second being that of synchronous patterns. -/
def jn (l : ByteArray) : ByteArray := if l = tJ then tJT else tT
def NDz : ND := ⟨0, [], [], [], [], []⟩
def NVz : NV := ⟨0, none, 0, 0, none, 0, 0, none, 0, 0, none, 0, 0, none, 0, 0⟩
/-- The notation of the kind q for a pattern. -/
def cnk (p : List Int) (l : ByteArray) (q : Int) : ND × ByteArray × Int :=
  if q = 1 then (⟨1, p, [], [], [], []⟩, l, 0)
  else if q = 2 then (⟨2, [], wrp p, [], [], []⟩, l, 0)
  else if q = 3 then (if (pup p).2 = 0 then (⟨3, [], [], (pup p).1, [], []⟩, jn l, 0) else (NDz, tz, (pup p).2))
  else (if p.length ≤ 8 then (⟨4, [], [], [], sf p, sf p⟩, l, 0) else (NDz, tz, 5))
/-- What ConvertNotation gives. -/
def cnv (D : ND) (q : Int) : ND × ByteArray × Int :=
  if vnt D = true then (if btw q 1 4 = true then (if D.k = q then (D, tz, 0) else (if (sgle D).2.2 = 0 then cnk (sgle D).1 (sgle D).2.1 q else (NDz, tz, (sgle D).2.2))) else (NDz, tz, 2)) else (NDz, tz, 1)
theorem sgle_lost {D : ND} (h : D.k ≠ 3) : (sgle D).2.1 = tz ∨ (sgle D).2.1 = tJ := by
  unfold sgle
  split
  · split
    · exact .inl rfl
    · exact .inl rfl
  · split
    · split
      · exact .inr rfl
      · exact .inr rfl
    · exact .inl rfl
theorem jn_z : jn tz = tT := if_neg (by decide)
theorem jn_j : jn tJ = tJT := if_pos rfl
/-- What hands back a notation, what is lost, and a code. -/
def RetCn (w : World) (r : ND × ByteArray × Int) (e : Ending) (w' : World) : Prop := ∃ V : NV, e = .returned (.tuple #[V.val, .string r.2.1, .int .i64 r.2.2]) ∧ NtO w' w.heap.size w'.heap.size V r.1 ∧ Ext w w'
theorem NtO.none (W : World) {lo hi : Nat} (h : lo ≤ hi) : NtO W lo hi NVz NDz :=
  ⟨rfl, lo, lo, lo, lo, lo, lo, lo, lo, ⟨by omega, by omega, by omega, by omega, by omega, by omega, by omega, by omega, by omega, by omega⟩, .inr ⟨rfl, rfl⟩, .inr ⟨rfl, rfl⟩, .inr ⟨rfl, rfl⟩, .inr ⟨rfl, rfl, rfl, rfl⟩⟩
/-- A result is stored and handed back. -/
theorem cn_done {w W : World} {g lo hi : Nat} {V : NV} {D : ND} (hs : Six W g) (h : NtO W lo hi V D) (hg : w.heap.size ≤ g) (hlo : g < lo) (hh : hi ≤ W.heap.size) (hX : Ext w W) (l : ByteArray) (c : Int) :
    NBox (sto W g V) g V ∧ RetCn w (D, l, c) (.returned (.tuple #[V.val, .string l, .int .i64 c])) (sto W g V) := by
  have hz := sto_size W g V
  exact ⟨sto_box hs V, V, rfl, (h.held (sto_kept W g V) (by omega)).wide (by omega) (by omega), sto_ext hX hg V⟩
theorem vpat_bd {xs : List Int} (h : vpat xs = true) : ∀ y ∈ xs, -9223372036854775808 ≤ y ∧ y ≤ 9223372036854775807 := fun y hy => by
  unfold vpat at h
  rw [Bool.and_eq_true, thr_iff] at h
  obtain ⟨i, hi, e⟩ := List.getElem_of_mem hy
  have := h.1.1 i hi
  rw [List.getElem?_eq_getElem hi] at this
  simp [e] at this
  omega
theorem vnt_split {D : ND} (h : vnt D = true) : (D.k = 1 ∨ D.p.length = 0) ∧ (D.k = 2 ∨ D.m.length = 0) ∧ (D.k = 3 ∨ D.s.length / 2 = 0) ∧ (D.k = 4 ∨ D.a.length + D.b.length = 0) := by
  unfold vnt at h
  rw [Bool.and_eq_true] at h
  exact of_decide_eq_true h.1
theorem vpat_len' {w : World} {A : Option Addr} {n : Nat} {xs : List Int} (hI : Ints w A n xs) (h : vpat xs = true) : n ≤ 12 := by have := vpat_len h; rw [hI.len] at this; exact this.2
theorem vmul_len' {w : World} {A : Option Addr} {n : Nat} {L : List (List Int)} (hI : Lists w A n L) (h : vmul L = true) : n ≤ 12 ∧ ∀ i, i < n → (ll L i).length ≤ 1000000 := by
  have h1 := vmul_len h
  have h2 := stks_iff (show stks L = true by unfold vmul at h; rw [Bool.and_eq_true] at h; exact h.1)
  rw [hI.len] at h1 h2
  exact ⟨h1.2, fun i hi => by have := (h2.2.2 i hi).2.1; omega⟩
theorem vsyn_len' {w : World} {A : Option Addr} {n : Nat} {ts : List (Int × Bool)} (hI : Syn w A n ts) (h : vsyn ts = true) : 1 ≤ n ∧ n ≤ 1000 := by have := vsyn_len h; have := hI.len; omega
theorem vpas_len' {w : World} {A B : Option Addr} {n m : Nat} {ts us : List (Int × Bool)} (hI : Thr w A n ts) (hJ : Thr w B m us) (h : vpas ts us = true) : (1 ≤ n ∧ n ≤ 8) ∧ (1 ≤ m ∧ m ≤ 8) := by have := vpas_len h; have := hI.len; have := hJ.len; omega
theorem copied_all (V : NV) (D : ND) (w : World) (hI : NtR w V D) (hV : vnt D = true) : Calls Tryz.prog 22 #[V.val] w (RetN w D) := by
  have h0 := vnt_split hV
  have hkd := vnt_kind hV
  obtain ⟨k, A, na, ca, B, nb, cb, S, ns, cs, P, np, cp, Q, nq, cq⟩ := V
  obtain ⟨kk, dp, dm, ds, da, db⟩ := D
  obtain ⟨hk, hp, hm, hs, ha, hb⟩ := hI
  dsimp only at *
  have lp := hp.len
  have lm := hm.len
  have ls := hs.len
  have la := ha.len
  have lb := hb.len
  clear hV
  subst hk
  rcases hkd with ⟨rfl, hv⟩ | ⟨rfl, hv⟩ | ⟨rfl, hv⟩ | ⟨rfl, hv⟩
  · skip
    have e_nb : nb = 0 := by omega
    subst e_nb
    have e_ns : ns = 0 := by omega
    subst e_ns
    have e_np : np = 0 := by omega
    subst e_np
    have e_nq : nq = 0 := by omega
    subst e_nq
    have e_dm : dm = [] := List.eq_nil_of_length_eq_zero (by omega)
    subst e_dm
    have e_ds : ds = [] := List.eq_nil_of_length_eq_zero (by omega)
    subst e_ds
    have e_da : da = [] := List.eq_nil_of_length_eq_zero (by omega)
    subst e_da
    have e_db : db = [] := List.eq_nil_of_length_eq_zero (by omega)
    subst e_db
    exact copied_k1 A B S P Q ca cb cs cp cq w na dp hp (vpat_len' hp hv)
  · skip
    have e_na : na = 0 := by omega
    subst e_na
    have e_ns : ns = 0 := by omega
    subst e_ns
    have e_np : np = 0 := by omega
    subst e_np
    have e_nq : nq = 0 := by omega
    subst e_nq
    have e_dp : dp = [] := List.eq_nil_of_length_eq_zero (by omega)
    subst e_dp
    have e_ds : ds = [] := List.eq_nil_of_length_eq_zero (by omega)
    subst e_ds
    have e_da : da = [] := List.eq_nil_of_length_eq_zero (by omega)
    subst e_da
    have e_db : db = [] := List.eq_nil_of_length_eq_zero (by omega)
    subst e_db
    exact copied_k2 A B S P Q ca cb cs cp cq w nb dm hm (vmul_len' hm hv).1 (vmul_len' hm hv).2
  · skip
    have e_na : na = 0 := by omega
    subst e_na
    have e_nb : nb = 0 := by omega
    subst e_nb
    have e_np : np = 0 := by omega
    subst e_np
    have e_nq : nq = 0 := by omega
    subst e_nq
    have e_dp : dp = [] := List.eq_nil_of_length_eq_zero (by omega)
    subst e_dp
    have e_dm : dm = [] := List.eq_nil_of_length_eq_zero (by omega)
    subst e_dm
    have e_da : da = [] := List.eq_nil_of_length_eq_zero (by omega)
    subst e_da
    have e_db : db = [] := List.eq_nil_of_length_eq_zero (by omega)
    subst e_db
    exact copied_k3 A B S P Q ca cb cs cp cq w ns ds hs (vsyn_len' hs hv)
  · skip
    have e_na : na = 0 := by omega
    subst e_na
    have e_nb : nb = 0 := by omega
    subst e_nb
    have e_ns : ns = 0 := by omega
    subst e_ns
    have e_dp : dp = [] := List.eq_nil_of_length_eq_zero (by omega)
    subst e_dp
    have e_dm : dm = [] := List.eq_nil_of_length_eq_zero (by omega)
    subst e_dm
    have e_ds : ds = [] := List.eq_nil_of_length_eq_zero (by omega)
    subst e_ds
    exact copied_k4 A B S P Q ca cb cs cp cq w np nq da db ha hb (vpas_len' ha hb hv).1 (vpas_len' ha hb hv).2
theorem l07Copy_all (g : Nat) (V : NV) (D : ND) (w : World) (hB : NBox w g V) (hI : NtR w V D) (hV : vnt D = true) : Calls Tryz.prog 30 #[.pointer (some ⟨g, 0, none⟩)] w (RetN w D) := by
  have h0 := vnt_split hV
  have hkd := vnt_kind hV
  obtain ⟨k, A, na, ca, B, nb, cb, S, ns, cs, P, np, cp, Q, nq, cq⟩ := V
  obtain ⟨kk, dp, dm, ds, da, db⟩ := D
  obtain ⟨hk, hp, hm, hs, ha, hb⟩ := hI
  dsimp only at *
  have lp := hp.len
  have lm := hm.len
  have ls := hs.len
  have la := ha.len
  have lb := hb.len
  clear hV
  subst hk
  rcases hkd with ⟨rfl, hv⟩ | ⟨rfl, hv⟩ | ⟨rfl, hv⟩ | ⟨rfl, hv⟩
  · skip
    have e_nb : nb = 0 := by omega
    subst e_nb
    have e_ns : ns = 0 := by omega
    subst e_ns
    have e_np : np = 0 := by omega
    subst e_np
    have e_nq : nq = 0 := by omega
    subst e_nq
    have e_dm : dm = [] := List.eq_nil_of_length_eq_zero (by omega)
    subst e_dm
    have e_ds : ds = [] := List.eq_nil_of_length_eq_zero (by omega)
    subst e_ds
    have e_da : da = [] := List.eq_nil_of_length_eq_zero (by omega)
    subst e_da
    have e_db : db = [] := List.eq_nil_of_length_eq_zero (by omega)
    subst e_db
    exact l07Copy_1 g 1 A B S P Q na ca 0 cb cs cp cq w dp [] hp hm (vpat_len' hp hv) (by omega) (fun i hi => absurd hi (by omega)) hB
  · skip
    have e_na : na = 0 := by omega
    subst e_na
    have e_ns : ns = 0 := by omega
    subst e_ns
    have e_np : np = 0 := by omega
    subst e_np
    have e_nq : nq = 0 := by omega
    subst e_nq
    have e_dp : dp = [] := List.eq_nil_of_length_eq_zero (by omega)
    subst e_dp
    have e_ds : ds = [] := List.eq_nil_of_length_eq_zero (by omega)
    subst e_ds
    have e_da : da = [] := List.eq_nil_of_length_eq_zero (by omega)
    subst e_da
    have e_db : db = [] := List.eq_nil_of_length_eq_zero (by omega)
    subst e_db
    exact l07Copy_1 g 2 A B S P Q 0 ca nb cb cs cp cq w [] dm hp hm (by omega) (vmul_len' hm hv).1 (vmul_len' hm hv).2 hB
  · skip
    have e_na : na = 0 := by omega
    subst e_na
    have e_nb : nb = 0 := by omega
    subst e_nb
    have e_np : np = 0 := by omega
    subst e_np
    have e_nq : nq = 0 := by omega
    subst e_nq
    have e_dp : dp = [] := List.eq_nil_of_length_eq_zero (by omega)
    subst e_dp
    have e_dm : dm = [] := List.eq_nil_of_length_eq_zero (by omega)
    subst e_dm
    have e_da : da = [] := List.eq_nil_of_length_eq_zero (by omega)
    subst e_da
    have e_db : db = [] := List.eq_nil_of_length_eq_zero (by omega)
    subst e_db
    exact l07Copy_2 g 3 A B S P Q 0 ca 0 cb cs cp cq w [] [] hp hm (by omega) (by omega) (fun i hi => absurd hi (by omega)) ns ds hs (vsyn_len' hs hv) hB
  · skip
    have e_na : na = 0 := by omega
    subst e_na
    have e_nb : nb = 0 := by omega
    subst e_nb
    have e_ns : ns = 0 := by omega
    subst e_ns
    have e_dp : dp = [] := List.eq_nil_of_length_eq_zero (by omega)
    subst e_dp
    have e_dm : dm = [] := List.eq_nil_of_length_eq_zero (by omega)
    subst e_dm
    have e_ds : ds = [] := List.eq_nil_of_length_eq_zero (by omega)
    subst e_ds
    exact l07Copy_3 g 4 A B S P Q 0 ca 0 cb cs cp cq w [] [] hp hm (by omega) (by omega) (fun i hi => absurd hi (by omega)) np nq da db ha hb (vpas_len' ha hb hv).1 (vpas_len' ha hb hv).2 hB
end Go.Proofs.YtbihbhdaenhdoaaGreat

namespace Go.Proofs.YtbihbhdaenhdoaaGreat
set_option linter.unusedVariables false
set_option linter.unusedSimpArgs false
open Go.ChangeShapes Go.WideShapes Go.ChangeAt Go.RowKit Go.Joins Go.Deep

theorem RetCn.ext {w W W' : World} {r : ND × ByteArray × Int} {e : Ending} (h : RetCn w r e W) (k : Ext W W') : RetCn w r e W' := by
  obtain ⟨V, h1, h2, h3⟩ := h
  exact ⟨V, h1, (h2.ext k).wide (Nat.le_refl _) k.size, h3.trans k⟩
theorem ValidNotation_x (k : Int) (A : Option Addr) (na ca : Nat) (B : Option Addr) (nb cb : Nat) (S : Option Addr) (ns cs : Nat) (P : Option Addr) (np cp : Nat) (Q : Option Addr) (nq cq : Nat) (D : ND) (v : Bool) (hv : vnt D = v) (w : World) (hI : NtR w (⟨k, A, na, ca, B, nb, cb, S, ns, cs, P, np, cp, Q, nq, cq⟩ : NV) D) (hS : np ≤ 1048576 ∧ nq ≤ 1048576) :
    Calls Tryz.prog 16 #[.agg #[.int .i64 k, .slice A na ca, .slice B nb cb, .slice S ns cs, .slice P np cp, .slice Q nq cq]] w (fun e w' => e = .returned (.bool v) ∧ Ext w w') := by
  subst hv
  exact ValidNotation_any (⟨k, A, na, ca, B, nb, cb, S, ns, cs, P, np, cp, Q, nq, cq⟩ : NV) D w hI hS
theorem copied_x (k : Int) (A : Option Addr) (na ca : Nat) (B : Option Addr) (nb cb : Nat) (S : Option Addr) (ns cs : Nat) (P : Option Addr) (np cp : Nat) (Q : Option Addr) (nq cq : Nat) (D : ND) (w : World) (hI : NtR w (⟨k, A, na, ca, B, nb, cb, S, ns, cs, P, np, cp, Q, nq, cq⟩ : NV) D) (hV : vnt D = true) :
    Calls Tryz.prog 22 #[.agg #[.int .i64 k, .slice A na ca, .slice B nb cb, .slice S ns cs, .slice P np cp, .slice Q nq cq]] w (RetN w D) := copied_all (⟨k, A, na, ca, B, nb, cb, S, ns, cs, P, np, cp, Q, nq, cq⟩ : NV) D w hI hV
theorem single_x (k : Int) (A : Option Addr) (na ca : Nat) (B : Option Addr) (nb cb : Nat) (S : Option Addr) (ns cs : Nat) (P : Option Addr) (np cp : Nat) (Q : Option Addr) (nq cq : Nat) (D : ND) (w : World) (hI : NtR w (⟨k, A, na, ca, B, nb, cb, S, ns, cs, P, np, cp, Q, nq, cq⟩ : NV) D) (hV : vnt D = true) :
    Calls Tryz.prog 23 #[.agg #[.int .i64 k, .slice A na ca, .slice B nb cb, .slice S ns cs, .slice P np cp, .slice Q nq cq]] w (RetSl w (sgle D)) := single_any (⟨k, A, na, ca, B, nb, cb, S, ns, cs, P, np, cp, Q, nq, cq⟩ : NV) D w hI hV
theorem joinLost_x (l : ByteArray) (h : l = tz ∨ l = tJ) (w : World) :
    Calls Tryz.prog 26 #[.string l, .string { data := #[116, 105, 109, 105, 110, 103] }] w fun e w' => e = .returned (.string (jn l)) ∧ Ext w w' := by
  rcases h with rfl | rfl
  · rw [jn_z]
    exact joinLost_none tT w
  · rw [jn_j]
    unfold tJ tJT
    go_enter Tryz.func26, Tryz.ntmps26
    go_wp2
    go_ret
    exact ⟨rfl, (by with_reducible (repeat (first | exact Ext.refl _ | apply Ext.drewN | apply Ext.drew | apply Ext.alloc | (refine Ext.set ?_ (by first | (simp; done) | (simp; omega) | omega) _) | (refine Ext.trans ?_ (by assumption)))))⟩
set_option maxRecDepth 100000 in
set_option maxHeartbeats 8000000 in
theorem implConvert_x (k : Int) (A : Option Addr) (na ca : Nat) (B : Option Addr) (nb cb : Nat) (S : Option Addr) (ns cs : Nat) (P : Option Addr) (np cp : Nat) (Q : Option Addr) (nq cq : Nat) (D : ND) (q : Int) (w : World) (hI : NtR w (⟨k, A, na, ca, B, nb, cb, S, ns, cs, P, np, cp, Q, nq, cq⟩ : NV) D) (hS : np ≤ 1048576 ∧ nq ≤ 1048576) :
    Calls Tryz.prog 6 #[.agg #[.int .i64 k, .slice A na ca, .slice B nb cb, .slice S ns cs, .slice P np cp, .slice Q nq cq], .int .i64 q] w (RetCn w (cnv D q)) := by
  have HK : Hid (k = D.k) := hI.k
  have hse : D.s.length = 2 * (D.s.length / 2) := by have := hI.s.len; omega
  have HSE := Lib.hid hse
  obtain ⟨r, hr⟩ : ∃ r, cnv D q = r := ⟨_, rfl⟩
  rw [hr]
  have HR := Lib.hid hr
  clear hr hse
  have HV0 : Hid (NBox ((w.alloc (.cells #[.int .i64 k, .slice A na ca, .slice B nb cb, .slice S ns cs, .slice P np cp, .slice Q nq cq] 33)).alloc (.cells #[.int .i64 0, .slice none 0 0, .slice none 0 0, .slice none 0 0, .slice none 0 0, .slice none 0 0] 33)) w.heap.size (⟨k, A, na, ca, B, nb, cb, S, ns, cs, P, np, cp, Q, nq, cq⟩ : NV)) := (NBox.new w (⟨k, A, na, ca, B, nb, cb, S, ns, cs, P, np, cp, Q, nq, cq⟩ : NV)).ext ((Ext.refl _).alloc _)
  have HR0 : Hid (Six ((w.alloc (.cells #[.int .i64 k, .slice A na ca, .slice B nb cb, .slice S ns cs, .slice P np cp, .slice Q nq cq] 33)).alloc (.cells #[.int .i64 0, .slice none 0 0, .slice none 0 0, .slice none 0 0, .slice none 0 0, .slice none 0 0] 33)) (w.heap.size + 1)) := by
    have := Six.new (w.alloc (.cells #[.int .i64 k, .slice A na ca, .slice B nb cb, .slice S ns cs, .slice P np cp, .slice Q nq cq] 33)) (.int .i64 0) (.slice none 0 0) (.slice none 0 0) (.slice none 0 0) (.slice none 0 0) (.slice none 0 0) 33
    rw [show (w.alloc (.cells #[.int .i64 k, .slice A na ca, .slice B nb cb, .slice S ns cs, .slice P np cp, .slice Q nq cq] 33)).heap.size = w.heap.size + 1 by simp] at this
    exact this
  have E0 : Ext w ((w.alloc (.cells #[.int .i64 k, .slice A na ca, .slice B nb cb, .slice S ns cs, .slice P np cp, .slice Q nq cq] 33)).alloc (.cells #[.int .i64 0, .slice none 0 0, .slice none 0 0, .slice none 0 0, .slice none 0 0, .slice none 0 0] 33)) := ((Ext.refl _).alloc _).alloc _
  cases hv : vnt D
  · have HF : Hid (r = (NDz, tz, 1)) := by show _ = _; rw [← HR.out]; unfold cnv; rw [hv]; rfl
    go_enter Tryz.func6, Tryz.ntmps6
    go_wp2_with fail
    (with_reducible refine (ValidNotation_x k A na ca B nb cb S ns cs P np cp Q nq cq D _ hv _ (hI.ext E0) hS).mono ?_)
    rintro e w1 ⟨rfl, hx1⟩
    have E1 := E0.trans hx1
    have HV1 := Lib.hid (HV0.out.ext hx1)
    have HR1 := Lib.hid (HR0.out.ext hx1)
    obtain ⟨l0, b0, b1, b2, b3, b4, b5⟩ := HV1.out
    dsimp only at b0 b1 b2 b3 b4 b5
    obtain ⟨y0, x0⟩ := HR1.out.c 0 (by omega)
    obtain ⟨y1, x1⟩ := HR1.out.c 1 (by omega)
    obtain ⟨y2, x2⟩ := HR1.out.c 2 (by omega)
    obtain ⟨y3, x3⟩ := HR1.out.c 3 (by omega)
    obtain ⟨y4, x4⟩ := HR1.out.c 4 (by omega)
    obtain ⟨y5, x5⟩ := HR1.out.c 5 (by omega)
    have xf := HR1.out.f
    have xl := HR1.out.lt
    have HD := Lib.hid (cn_done (w := w) HR1.out (NtO.none w1 (Nat.le_refl w1.heap.size)) (by omega) (by omega) (Nat.le_refl _) E1 tz 1)
    go_wp2
    refine bodyPost_ret (v := .tuple #[NVz.val, .string tz, .int .i64 1]) ?_ ?_ ?_
    · exact results_not3 Tryz.results6 rfl HD.out.1
    · rfl
    · rw [HF.out]
      exact HD.out.2
  · cases hb : btw q 1 4
    · have HF : Hid (r = (NDz, tz, 2)) := by show _ = _; rw [← HR.out]; unfold cnv; rw [if_pos hv, hb]; rfl
      go_enter Tryz.func6, Tryz.ntmps6
      go_wp2_with fail
      (with_reducible refine (ValidNotation_x k A na ca B nb cb S ns cs P np cp Q nq cq D _ hv _ (hI.ext E0) hS).mono ?_)
      rintro e w1 ⟨rfl, hx1⟩
      have E1 := E0.trans hx1
      have HV1 := Lib.hid (HV0.out.ext hx1)
      have HR1 := Lib.hid (HR0.out.ext hx1)
      obtain ⟨l0, b0, b1, b2, b3, b4, b5⟩ := HV1.out
      dsimp only at b0 b1 b2 b3 b4 b5
      obtain ⟨y0, x0⟩ := HR1.out.c 0 (by omega)
      obtain ⟨y1, x1⟩ := HR1.out.c 1 (by omega)
      obtain ⟨y2, x2⟩ := HR1.out.c 2 (by omega)
      obtain ⟨y3, x3⟩ := HR1.out.c 3 (by omega)
      obtain ⟨y4, x4⟩ := HR1.out.c 4 (by omega)
      obtain ⟨y5, x5⟩ := HR1.out.c 5 (by omega)
      have xf := HR1.out.f
      have xl := HR1.out.lt
      have HD := Lib.hid (cn_done (w := w) HR1.out (NtO.none w1 (Nat.le_refl w1.heap.size)) (by omega) (by omega) (Nat.le_refl _) E1 tz 2)
      go_wp2_with (go_at_call 21; (with_reducible refine (between_is _ _ _ _ hb _).mono ?_); rintro e w' ⟨rfl, rfl⟩)
      refine bodyPost_ret (v := .tuple #[NVz.val, .string tz, .int .i64 2]) ?_ ?_ ?_
      · exact results_not3 Tryz.results6 rfl HD.out.1
      · rfl
      · rw [HF.out]
        exact HD.out.2
    · by_cases hkq : k = q
      · have HF : Hid (r = (D, tz, 0)) := by show _ = _; rw [← HR.out]; unfold cnv; rw [if_pos hv, if_pos hb, if_pos (by have := HK.out; omega)]
        subst hkq
        clear HR
        go_enter Tryz.func6, Tryz.ntmps6
        go_wp2_with fail
        (with_reducible refine (ValidNotation_x k A na ca B nb cb S ns cs P np cp Q nq cq D _ hv _ (hI.ext E0) hS).mono ?_)
        rintro e w1 ⟨rfl, hx1⟩
        have E1 := E0.trans hx1
        have HV1 := Lib.hid (HV0.out.ext hx1)
        have HR1 := Lib.hid (HR0.out.ext hx1)
        obtain ⟨l0, b0, b1, b2, b3, b4, b5⟩ := HV1.out
        dsimp only at b0 b1 b2 b3 b4 b5
        obtain ⟨y0, x0⟩ := HR1.out.c 0 (by omega)
        obtain ⟨y1, x1⟩ := HR1.out.c 1 (by omega)
        obtain ⟨y2, x2⟩ := HR1.out.c 2 (by omega)
        obtain ⟨y3, x3⟩ := HR1.out.c 3 (by omega)
        obtain ⟨y4, x4⟩ := HR1.out.c 4 (by omega)
        obtain ⟨y5, x5⟩ := HR1.out.c 5 (by omega)
        have xf := HR1.out.f
        have xl := HR1.out.lt
        go_wp2_with (go_at_call 21; (with_reducible refine (between_is _ _ _ _ hb _).mono ?_); rintro e w' ⟨rfl, rfl⟩)
        (with_reducible refine (copied_x k A na ca B nb cb S ns cs P np cp Q nq cq D _ (hI.ext E1) hv).mono ?_)
        have hl1 : w.heap.size + 1 < w1.heap.size := HR1.out.lt
        rintro e w2 ⟨⟨k', A', na', ca', B', nb', cb', S', ns', cs', P', np', cp', Q', nq', cq'⟩, rfl, hO, hx2⟩
        have E2 := E1.trans hx2
        have hz2 := hx2.size
        have HV2 := Lib.hid (HV1.out.ext hx2)
        have HR2 := Lib.hid (HR1.out.ext hx2)
        clear b0 b1 b2 b3 b4 b5 x0 x1 x2 x3 x4 x5 xf xl
        obtain ⟨l0, b0, b1, b2, b3, b4, b5⟩ := HV2.out
        dsimp only at b0 b1 b2 b3 b4 b5
        obtain ⟨y0, x0⟩ := HR2.out.c 0 (by omega)
        obtain ⟨y1, x1⟩ := HR2.out.c 1 (by omega)
        obtain ⟨y2, x2⟩ := HR2.out.c 2 (by omega)
        obtain ⟨y3, x3⟩ := HR2.out.c 3 (by omega)
        obtain ⟨y4, x4⟩ := HR2.out.c 4 (by omega)
        obtain ⟨y5, x5⟩ := HR2.out.c 5 (by omega)
        have xf := HR2.out.f
        have xl := HR2.out.lt
        have HD := Lib.hid (cn_done (w := w) HR2.out hO (by omega) (by omega) (Nat.le_refl _) E2 tz 0)
        clear hO
        unfold NV.val
        dsimp only
        go_wp2
        refine bodyPost_ret (v := (.tuple #[(NV.mk k' A' na' ca' B' nb' cb' S' ns' cs' P' np' cp' Q' nq' cq').val, .string tz, .int .i64 0])) ?_ ?_ ?_
        · exact results_not3 Tryz.results6 rfl HD.out.1
        · rfl
        · rw [HF.out]
          exact HD.out.2
      · have HF : Hid (r = if (sgle D).2.2 = 0 then cnk (sgle D).1 (sgle D).2.1 q else (NDz, tz, (sgle D).2.2)) := by show _ = _; rw [← HR.out]; unfold cnv; rw [if_pos hv, if_pos hb, if_neg (by have := HK.out; omega)]
        have HVP : Hid ((sgle D).2.2 = 0 → vpat (sgle D).1 = true) := fun h => sgle_vpat hv HSE.out h
        have HLO : Hid (q = 3 → (sgle D).2.1 = tz ∨ (sgle D).2.1 = tJ) := fun h => sgle_lost (by have := HK.out; omega)
        clear HR
        go_enter Tryz.func6, Tryz.ntmps6
        go_wp2_with fail
        (with_reducible refine (ValidNotation_x k A na ca B nb cb S ns cs P np cp Q nq cq D _ hv _ (hI.ext E0) hS).mono ?_)
        rintro e w1 ⟨rfl, hx1⟩
        have E1 := E0.trans hx1
        have HV1 := Lib.hid (HV0.out.ext hx1)
        have HR1 := Lib.hid (HR0.out.ext hx1)
        obtain ⟨l0, b0, b1, b2, b3, b4, b5⟩ := HV1.out
        dsimp only at b0 b1 b2 b3 b4 b5
        obtain ⟨y0, x0⟩ := HR1.out.c 0 (by omega)
        obtain ⟨y1, x1⟩ := HR1.out.c 1 (by omega)
        obtain ⟨y2, x2⟩ := HR1.out.c 2 (by omega)
        obtain ⟨y3, x3⟩ := HR1.out.c 3 (by omega)
        obtain ⟨y4, x4⟩ := HR1.out.c 4 (by omega)
        obtain ⟨y5, x5⟩ := HR1.out.c 5 (by omega)
        have xf := HR1.out.f
        have xl := HR1.out.lt
        go_wp2_with (go_at_call 21; (with_reducible refine (between_is _ _ _ _ hb _).mono ?_); rintro e w' ⟨rfl, rfl⟩)
        (with_reducible refine (single_x k A na ca B nb cb S ns cs P np cp Q nq cq D _ (hI.ext E1) hv).mono ?_)
        intro e w2 hsl
        generalize sgle D = z at hsl HF HVP HLO
        obtain ⟨p, l, c⟩ := z
        dsimp only at hsl HF HVP HLO
        rcases hsl with ⟨hc, A1, c1, rfl, hO⟩ | ⟨hc, ⟨v, l', rfl⟩, hx2⟩
        · dsimp only at hc hO ⊢
          subst hc
          have HF2 : Hid (r = cnk p l q) := by show _ = _; rw [HF.out]; exact if_pos rfl
          have hvp := HVP.out rfl
          have hx2 := hO.ext
          have hz2 := hx2.size
          have E2 := E1.trans hx2
          have hl1 : w.heap.size + 1 < w1.heap.size := HR1.out.lt
          have hpl := vpat_len hvp
          obtain ⟨n, hn⟩ : ∃ n, p.length = n := ⟨_, rfl⟩
          rw [hn] at hO hpl ⊢
          have hbd := vpat_bd hvp
          have HIp : Hid (Ints w2 A1 n p) := hO.ints hn (by omega) hbd
          have HRW : Hid (Row w2 w1.heap.size w2.heap.size 2 1 A1 n c1 p) := Row.of_own hO hn
          have HNB := Lib.hid (NBox.new w2 (⟨q, none, 0, 0, none, 0, 0, none, 0, 0, none, 0, 0, none, 0, 0⟩ : NV))
          clear hO hbd
          have HV2 := Lib.hid (HV1.out.ext hx2)
          have HR2 := Lib.hid (HR1.out.ext hx2)
          clear b0 b1 b2 b3 b4 b5 x0 x1 x2 x3 x4 x5 xf xl
          obtain ⟨l0, b0, b1, b2, b3, b4, b5⟩ := HV2.out
          dsimp only at b0 b1 b2 b3 b4 b5
          obtain ⟨y0, x0⟩ := HR2.out.c 0 (by omega)
          obtain ⟨y1, x1⟩ := HR2.out.c 1 (by omega)
          obtain ⟨y2, x2⟩ := HR2.out.c 2 (by omega)
          obtain ⟨y3, x3⟩ := HR2.out.c 3 (by omega)
          obtain ⟨y4, x4⟩ := HR2.out.c 4 (by omega)
          obtain ⟨y5, x5⟩ := HR2.out.c 5 (by omega)
          have xf := HR2.out.f
          have xl := HR2.out.lt
          rcases (show q = 1 ∨ q = 2 ∨ q = 3 ∨ q = 4 by have := btw_iff.1 hb; omega) with rfl | rfl | rfl | rfl
          · have HF3 : Hid (r = (⟨1, p, [], [], [], []⟩, l, 0)) := HF2.out
            have HD := Lib.hid (cn_done (w := w) (V := ⟨1, A1, n, c1, none, 0, 0, none, 0, 0, none, 0, 0, none, 0, 0⟩) (D := ⟨1, p, [], [], [], []⟩) (lo := w1.heap.size) (hi := w2.heap.size) HR2.out ⟨rfl, w1.heap.size, w2.heap.size, w1.heap.size, w1.heap.size, w1.heap.size, w1.heap.size, w1.heap.size, w1.heap.size, ⟨by omega, by omega, by omega, by omega, by omega, by omega, by omega, by omega, by omega, by omega⟩, .inl HRW.out, .inr ⟨rfl, rfl⟩, .inr ⟨rfl, rfl⟩, .inr ⟨rfl, rfl, rfl, rfl⟩⟩ (by omega) hl1 (Nat.le_refl _) E2 l 0)
            go_wp2
            refine bodyPost_ret (v := .tuple #[(NV.mk 1 A1 n c1 none 0 0 none 0 0 none 0 0 none 0 0).val, .string l, .int .i64 0]) ?_ ?_ ?_
            · exact results_not3 Tryz.results6 rfl (HD.out.1.ext ((Ext.refl _).alloc (.cells #[.int .i64 1, .slice A1 n c1, .slice none 0 0, .slice none 0 0, .slice none 0 0, .slice none 0 0] 33)))
            · rfl
            · rw [HF3.out]
              exact (HD.out.2.ext ((Ext.refl _).alloc (.cells #[.int .i64 1, .slice A1 n c1, .slice none 0 0, .slice none 0 0, .slice none 0 0, .slice none 0 0] 33)))
          · have HF3 : Hid (r = (⟨2, [], wrp p, [], [], []⟩, l, 0)) := HF2.out
            go_wp2_with fail
            (with_reducible refine (MultiOf_any A1 n c1 p _ (HIp.out.ext ((Ext.refl _).alloc _)) hvp (by omega)).mono ?_)
            rintro e w4 ⟨C, d, rfl, hR, hx4⟩
            have HV4 := Lib.hid (HV2.out.ext (((Ext.refl _).alloc _).trans hx4))
            have HR4 := Lib.hid (HR2.out.ext (((Ext.refl _).alloc _).trans hx4))
            clear b0 b1 b2 b3 b4 b5 x0 x1 x2 x3 x4 x5 xf xl
            obtain ⟨l0, b0, b1, b2, b3, b4, b5⟩ := HV4.out
            dsimp only at b0 b1 b2 b3 b4 b5
            obtain ⟨y0, x0⟩ := HR4.out.c 0 (by omega)
            obtain ⟨y1, x1⟩ := HR4.out.c 1 (by omega)
            obtain ⟨y2, x2⟩ := HR4.out.c 2 (by omega)
            obtain ⟨y3, x3⟩ := HR4.out.c 3 (by omega)
            obtain ⟨y4, x4⟩ := HR4.out.c 4 (by omega)
            obtain ⟨y5, x5⟩ := HR4.out.c 5 (by omega)
            have xf := HR4.out.f
            have xl := HR4.out.lt
            have E4 := E2.trans (((Ext.refl _).alloc _).trans hx4)
            have hz4 := hx4.size
            (try simp at hz4)
            obtain ⟨lb, m0, m1, m2, m3, m4, m5⟩ := HNB.out.ext hx4
            dsimp only at m0 m1 m2 m3 m4 m5
            have mf := ((Six.new w2 _ _ _ _ _ _ 33).ext hx4).f
            have hR4 : LRow w4 (w2.heap.size + 1) w4.heap.size C n d (wrp p) := by simpa using hR
            have HD := Lib.hid (cn_done (w := w) (W := w4.setCell ⟨w2.heap.size, 2, none⟩ (.slice C n d)) (V := ⟨2, none, 0, 0, C, n, d, none, 0, 0, none, 0, 0, none, 0, 0⟩) (D := ⟨2, [], wrp p, [], [], []⟩) (lo := w2.heap.size + 1) (hi := w4.heap.size) (HR4.out.set _ _) ⟨rfl, w2.heap.size + 1, w2.heap.size + 1, w2.heap.size + 1, w4.heap.size, w2.heap.size + 1, w2.heap.size + 1, w2.heap.size + 1, w2.heap.size + 1, ⟨by omega, by omega, by omega, by omega, by omega, by omega, by omega, by omega, by omega, by omega⟩, .inr ⟨rfl, rfl⟩, .inl (hR4.far (.inl (by show w2.heap.size < _; omega)) _), .inr ⟨rfl, rfl⟩, .inr ⟨rfl, rfl, rfl, rfl⟩⟩ (by omega) (by omega) (by simp [World.setCell]) (E4.set (by show w.heap.size ≤ w2.heap.size; omega) _) l 0)
            clear hR hR4
            go_wp2
            refine bodyPost_ret (v := .tuple #[(NV.mk 2 none 0 0 C n d none 0 0 none 0 0 none 0 0).val, .string l, .int .i64 0]) ?_ ?_ ?_
            · exact results_not3 Tryz.results6 rfl HD.out.1
            · rfl
            · rw [HF3.out]
              exact HD.out.2
          · have HLX := Lib.hid (HLO.out rfl)
            go_wp2_with fail
            (with_reducible refine (implPairUp_any A1 n c1 p _ (HIp.out.ext ((Ext.refl _).alloc _)) hvp).mono ?_)
            rintro e w4 ⟨C, m, d, rfl, hR, hx4⟩
            have HF3 : Hid (r = if (pup p).2 = 0 then (⟨3, [], [], (pup p).1, [], []⟩, jn l, 0) else (NDz, tz, (pup p).2)) := HF2.out
            generalize pup p = z at HF3 hR ⊢
            obtain ⟨ts, rc⟩ := z
            dsimp only at HF3 hR ⊢
            have HV4 := Lib.hid (HV2.out.ext (((Ext.refl _).alloc _).trans hx4))
            have HR4 := Lib.hid (HR2.out.ext (((Ext.refl _).alloc _).trans hx4))
            clear b0 b1 b2 b3 b4 b5 x0 x1 x2 x3 x4 x5 xf xl
            obtain ⟨l0, b0, b1, b2, b3, b4, b5⟩ := HV4.out
            dsimp only at b0 b1 b2 b3 b4 b5
            obtain ⟨y0, x0⟩ := HR4.out.c 0 (by omega)
            obtain ⟨y1, x1⟩ := HR4.out.c 1 (by omega)
            obtain ⟨y2, x2⟩ := HR4.out.c 2 (by omega)
            obtain ⟨y3, x3⟩ := HR4.out.c 3 (by omega)
            obtain ⟨y4, x4⟩ := HR4.out.c 4 (by omega)
            obtain ⟨y5, x5⟩ := HR4.out.c 5 (by omega)
            have xf := HR4.out.f
            have xl := HR4.out.lt
            have E4 := E2.trans (((Ext.refl _).alloc _).trans hx4)
            have hz4 := hx4.size
            (try simp at hz4)
            obtain ⟨lb, m0, m1, m2, m3, m4, m5⟩ := HNB.out.ext hx4
            dsimp only at m0 m1 m2 m3 m4 m5
            have mf := ((Six.new w2 _ _ _ _ _ _ 33).ext hx4).f
            have hR4 : RowS w4 (w2.heap.size + 1) w4.heap.size C m d ts := by simpa using hR
            have HR4' := Lib.hid (hR4.far (p := ⟨w2.heap.size, 3, none⟩) (.inl (by show w2.heap.size < _; omega)) (.slice C m d))
            clear hR hR4
            have HB5 : Hid (NBox (w4.setCell ⟨w2.heap.size, 3, none⟩ (.slice C m d)) w2.heap.size (⟨3, none, 0, 0, none, 0, 0, C, m, d, none, 0, 0, none, 0, 0⟩ : NV)) := ⟨by simpa [World.setCell] using lb, cell_oth (off_ne (by omega)) m0, cell_oth (off_ne (by omega)) m1, cell_oth (off_ne (by omega)) m2, cell_same m3, cell_oth (off_ne (by omega)) m4, cell_oth (off_ne (by omega)) m5⟩
            have HV5 := Lib.hid (HV4.out.far (g' := w2.heap.size) (i := 3) (by omega) (.slice C m d))
            have HR5 := Lib.hid (HR4.out.set ⟨w2.heap.size, 3, none⟩ (.slice C m d))
            have E5 := E4.set (p := ⟨w2.heap.size, 3, none⟩) (by show w.heap.size ≤ w2.heap.size; omega) (.slice C m d)
            go_wp2_with fail
            (with_reducible refine (joinLost_x l HLX.out _).mono ?_)
            rintro e w6 ⟨rfl, hx6⟩
            have HV6 := Lib.hid (HV5.out.ext hx6)
            have HR6 := Lib.hid (HR5.out.ext hx6)
            clear b0 b1 b2 b3 b4 b5 x0 x1 x2 x3 x4 x5 xf xl
            obtain ⟨l0, b0, b1, b2, b3, b4, b5⟩ := HV6.out
            dsimp only at b0 b1 b2 b3 b4 b5
            obtain ⟨y0, x0⟩ := HR6.out.c 0 (by omega)
            obtain ⟨y1, x1⟩ := HR6.out.c 1 (by omega)
            obtain ⟨y2, x2⟩ := HR6.out.c 2 (by omega)
            obtain ⟨y3, x3⟩ := HR6.out.c 3 (by omega)
            obtain ⟨y4, x4⟩ := HR6.out.c 4 (by omega)
            obtain ⟨y5, x5⟩ := HR6.out.c 5 (by omega)
            have xf := HR6.out.f
            have xl := HR6.out.lt
            have E6 := E5.trans hx6
            obtain ⟨lb6, n0, n1, n2, n3, n4, n5⟩ := HB5.out.ext hx6
            dsimp only at n0 n1 n2 n3 n4 n5
            clear m0 m1 m2 m3 m4 m5 mf
            by_cases hrc : rc = 0
            · subst hrc
              have HF4 : Hid (r = (⟨3, [], [], ts, [], []⟩, jn l, 0)) := by show _ = _; rw [HF3.out]; exact if_pos rfl
              have hz6 : w4.heap.size ≤ w6.heap.size := by have := hx6.size; simpa [World.setCell] using this
              have HD := Lib.hid (cn_done (w := w) (V := ⟨3, none, 0, 0, none, 0, 0, C, m, d, none, 0, 0, none, 0, 0⟩) (D := ⟨3, [], [], ts, [], []⟩) (lo := w2.heap.size + 1) (hi := w4.heap.size) HR6.out ⟨rfl, w2.heap.size + 1, w2.heap.size + 1, w2.heap.size + 1, w2.heap.size + 1, w2.heap.size + 1, w4.heap.size, w2.heap.size + 1, w2.heap.size + 1, ⟨by omega, by omega, by omega, by omega, by omega, by omega, by omega, by omega, by omega, by omega⟩, .inr ⟨rfl, rfl⟩, .inr ⟨rfl, rfl⟩, .inl (HR4'.out.ext hx6), .inr ⟨rfl, rfl, rfl, rfl⟩⟩ (by omega) (by omega) hz6 E6 (jn l) 0)
              go_wp2
              refine bodyPost_ret (v := .tuple #[(NV.mk 3 none 0 0 none 0 0 C m d none 0 0 none 0 0).val, .string (jn l), .int .i64 0]) ?_ ?_ ?_
              · exact results_not3 Tryz.results6 rfl HD.out.1
              · rfl
              · rw [HF4.out]
                exact HD.out.2
            · have HF4 : Hid (r = (NDz, tz, rc)) := by show _ = _; rw [HF3.out]; exact if_neg hrc
              have HD := Lib.hid (cn_done (w := w) HR6.out (NtO.none w6 (Nat.le_refl w6.heap.size)) (by omega) (by omega) (Nat.le_refl _) E6 tz rc)
              go_wp2
              refine bodyPost_ret (v := .tuple #[NVz.val, .string tz, .int .i64 rc]) ?_ ?_ ?_
              · exact results_not3 Tryz.results6 rfl HD.out.1
              · rfl
              · rw [HF4.out]
                exact HD.out.2
          · by_cases h8 : n ≤ 8
            · have HF3 : Hid (r = (⟨4, [], [], [], sf p, sf p⟩, l, 0)) := by show _ = _; rw [HF2.out]; unfold cnk; exact (if_neg (by decide)).trans ((if_neg (by decide)).trans ((if_neg (by decide)).trans (if_pos (by omega))))
              go_wp2_with fail
              (with_reducible refine (implTogetherOf_any A1 A1 n c1 c1 p p _ (HIp.out.ext ((Ext.refl _).alloc _)) (HIp.out.ext ((Ext.refl _).alloc _)) (by omega) hvp hvp).mono ?_)
              rintro e w4 ⟨C, d, C', d', rfl, hR, hx4⟩
              have HV4 := Lib.hid (HV2.out.ext (((Ext.refl _).alloc _).trans hx4))
              have HR4 := Lib.hid (HR2.out.ext (((Ext.refl _).alloc _).trans hx4))
              clear b0 b1 b2 b3 b4 b5 x0 x1 x2 x3 x4 x5 xf xl
              obtain ⟨l0, b0, b1, b2, b3, b4, b5⟩ := HV4.out
              dsimp only at b0 b1 b2 b3 b4 b5
              obtain ⟨y0, x0⟩ := HR4.out.c 0 (by omega)
              obtain ⟨y1, x1⟩ := HR4.out.c 1 (by omega)
              obtain ⟨y2, x2⟩ := HR4.out.c 2 (by omega)
              obtain ⟨y3, x3⟩ := HR4.out.c 3 (by omega)
              obtain ⟨y4, x4⟩ := HR4.out.c 4 (by omega)
              obtain ⟨y5, x5⟩ := HR4.out.c 5 (by omega)
              have xf := HR4.out.f
              have xl := HR4.out.lt
              have E4 := E2.trans (((Ext.refl _).alloc _).trans hx4)
              have hz4 := hx4.size
              (try simp at hz4)
              obtain ⟨lb, m0, m1, m2, m3, m4, m5⟩ := HNB.out.ext hx4
              dsimp only at m0 m1 m2 m3 m4 m5
              have mf := ((Six.new w2 _ _ _ _ _ _ 33).ext hx4).f
              have hR4 : PassR w4 (w2.heap.size + 1) w4.heap.size C n d C' n d' (sf p) (sf p) := by simpa using hR
              have HD := Lib.hid (cn_done (w := w) (W := (w4.setCell ⟨w2.heap.size, 4, none⟩ (.slice C n d)).setCell ⟨w2.heap.size, 5, none⟩ (.slice C' n d')) (V := ⟨4, none, 0, 0, none, 0, 0, none, 0, 0, C, n, d, C', n, d'⟩) (D := ⟨4, [], [], [], sf p, sf p⟩) (lo := w2.heap.size + 1) (hi := w4.heap.size) ((HR4.out.set _ _).set _ _) ⟨rfl, w2.heap.size + 1, w2.heap.size + 1, w2.heap.size + 1, w2.heap.size + 1, w2.heap.size + 1, w2.heap.size + 1, w2.heap.size + 1, w4.heap.size, ⟨by omega, by omega, by omega, by omega, by omega, by omega, by omega, by omega, by omega, by omega⟩, .inr ⟨rfl, rfl⟩, .inr ⟨rfl, rfl⟩, .inr ⟨rfl, rfl⟩, .inl ((hR4.held (Kept.set (Kept.of_ext (Ext.refl _)) (lo := w2.heap.size) (hi := w2.heap.size + 1) (p := ⟨w2.heap.size, 4, none⟩) (by simp) (.slice C n d)) (by omega)).held (Kept.set (Kept.of_ext (Ext.refl _)) (lo := w2.heap.size) (hi := w2.heap.size + 1) (p := ⟨w2.heap.size, 5, none⟩) (by simp) (.slice C' n d')) (by omega))⟩ (by omega) (by omega) (by simp [World.setCell]) ((E4.set (by show w.heap.size ≤ w2.heap.size; omega) _).set (by show w.heap.size ≤ w2.heap.size; omega) _) l 0)
              clear hR hR4
              go_wp2
              refine bodyPost_ret (v := .tuple #[(NV.mk 4 none 0 0 none 0 0 none 0 0 C n d C' n d').val, .string l, .int .i64 0]) ?_ ?_ ?_
              · exact results_not3 Tryz.results6 rfl HD.out.1
              · rfl
              · rw [HF3.out]
                exact HD.out.2
            · have HF3 : Hid (r = (NDz, tz, 5)) := by show _ = _; rw [HF2.out]; unfold cnk; exact (if_neg (by decide)).trans ((if_neg (by decide)).trans ((if_neg (by decide)).trans (if_neg (by omega))))
              go_wp2_with fail
              (with_reducible refine (implTogetherOf_full A1 n c1 p _ (HIp.out.ext ((Ext.refl _).alloc _)) (by omega) hvp).mono ?_)
              rintro e w4 ⟨rfl, hx4⟩
              have HV4 := Lib.hid (HV2.out.ext (((Ext.refl _).alloc _).trans hx4))
              have HR4 := Lib.hid (HR2.out.ext (((Ext.refl _).alloc _).trans hx4))
              clear b0 b1 b2 b3 b4 b5 x0 x1 x2 x3 x4 x5 xf xl
              obtain ⟨l0, b0, b1, b2, b3, b4, b5⟩ := HV4.out
              dsimp only at b0 b1 b2 b3 b4 b5
              obtain ⟨y0, x0⟩ := HR4.out.c 0 (by omega)
              obtain ⟨y1, x1⟩ := HR4.out.c 1 (by omega)
              obtain ⟨y2, x2⟩ := HR4.out.c 2 (by omega)
              obtain ⟨y3, x3⟩ := HR4.out.c 3 (by omega)
              obtain ⟨y4, x4⟩ := HR4.out.c 4 (by omega)
              obtain ⟨y5, x5⟩ := HR4.out.c 5 (by omega)
              have xf := HR4.out.f
              have xl := HR4.out.lt
              have E4 := E2.trans (((Ext.refl _).alloc _).trans hx4)
              have hz4 := hx4.size
              (try simp at hz4)
              obtain ⟨lb, m0, m1, m2, m3, m4, m5⟩ := HNB.out.ext hx4
              dsimp only at m0 m1 m2 m3 m4 m5
              have mf := ((Six.new w2 _ _ _ _ _ _ 33).ext hx4).f
              have HD := Lib.hid (cn_done (w := w) (W := (w4.setCell ⟨w2.heap.size, 4, none⟩ (.slice none 0 0)).setCell ⟨w2.heap.size, 5, none⟩ (.slice none 0 0)) ((HR4.out.set _ _).set _ _) (NtO.none _ (Nat.le_refl w4.heap.size)) (by omega) (by omega) (by simp [World.setCell]) ((E4.set (by show w.heap.size ≤ w2.heap.size; omega) _).set (by show w.heap.size ≤ w2.heap.size; omega) _) tz 5)
              go_wp2
              refine bodyPost_ret (v := .tuple #[NVz.val, .string tz, .int .i64 5]) ?_ ?_ ?_
              · exact results_not3 Tryz.results6 rfl HD.out.1
              · rfl
              · rw [HF3.out]
                exact HD.out.2
        · dsimp only at hc ⊢
          have HF2 : Hid (r = (NDz, tz, c)) := by show _ = _; rw [HF.out]; exact if_neg hc
          have E2 := E1.trans hx2
          have hz2 := hx2.size
          have HV2 := Lib.hid (HV1.out.ext hx2)
          have HR2 := Lib.hid (HR1.out.ext hx2)
          clear b0 b1 b2 b3 b4 b5 x0 x1 x2 x3 x4 x5 xf xl
          obtain ⟨l0, b0, b1, b2, b3, b4, b5⟩ := HV2.out
          dsimp only at b0 b1 b2 b3 b4 b5
          obtain ⟨y0, x0⟩ := HR2.out.c 0 (by omega)
          obtain ⟨y1, x1⟩ := HR2.out.c 1 (by omega)
          obtain ⟨y2, x2⟩ := HR2.out.c 2 (by omega)
          obtain ⟨y3, x3⟩ := HR2.out.c 3 (by omega)
          obtain ⟨y4, x4⟩ := HR2.out.c 4 (by omega)
          obtain ⟨y5, x5⟩ := HR2.out.c 5 (by omega)
          have xf := HR2.out.f
          have xl := HR2.out.lt
          have HD := Lib.hid (cn_done (w := w) HR2.out (NtO.none w2 (Nat.le_refl w2.heap.size)) (by omega) (by omega) (Nat.le_refl _) E2 tz c)
          go_wp2
          refine bodyPost_ret (v := .tuple #[NVz.val, .string tz, .int .i64 c]) ?_ ?_ ?_
          · exact results_not3 Tryz.results6 rfl HD.out.1
          · rfl
          · rw [HF2.out]
            exact HD.out.2
end Go.Proofs.YtbihbhdaenhdoaaGreat

namespace Go.Proofs.YtbihbhdaenhdoaaGreat
set_option linter.unusedVariables false
set_option linter.unusedSimpArgs false
open Go.ChangeShapes Go.WideShapes Go.ChangeAt Go.RowKit Go.Joins Go.Deep

set_option maxHeartbeats 4000000 in
theorem from1 (A : Option Addr) (n c : Nat) (w : World) : Calls Tryz.prog 32 #[.slice A n c, .int .i64 1] w fun e w' => e = .returned (.tuple #[(NV.mk 1 A n c none 0 0 none 0 0 none 0 0 none 0 0).val, .string tz, .int .i64 0]) ∧ Ext w w' := by
  have HR0 : Hid (Six (w.alloc (.cells #[.int .i64 0, .slice none 0 0, .slice none 0 0, .slice none 0 0, .slice none 0 0, .slice none 0 0] 33)) w.heap.size) := Six.new w _ _ _ _ _ _ _
  go_enter Tryz.func32, Tryz.ntmps32
  go_wp2
  refine bodyPost_ret (v := .tuple #[(NV.mk 1 A n c none 0 0 none 0 0 none 0 0 none 0 0).val, .string tz, .int .i64 0]) ?_ ?_ ?_
  · exact results_not3 Tryz.results32 rfl ((NBox.new w (NV.mk 1 A n c none 0 0 none 0 0 none 0 0 none 0 0)).ext ((Ext.refl _).alloc (.cells #[.int .i64 1, .slice A n c, .slice none 0 0, .slice none 0 0, .slice none 0 0, .slice none 0 0] 33)))
  · rfl
  · exact ⟨rfl, (by with_reducible (repeat (first | exact Ext.refl _ | apply Ext.drewN | apply Ext.drew | apply Ext.alloc | (refine Ext.set ?_ (by first | (simp; done) | (simp; omega) | omega) _) | (refine Ext.trans ?_ (by assumption)))))⟩
set_option maxHeartbeats 4000000 in
theorem from2 (A : Option Addr) (n c : Nat) (p : List Int) (w : World) (hI : Ints w A n p) (hn : n ≤ 1000) : Calls Tryz.prog 32 #[.slice A n c, .int .i64 2] w (RetCn w (⟨2, [], wrp p, [], [], []⟩, tz, 0)) := by
  have HR0 : Hid (Six ((w.alloc (.cells #[.int .i64 0, .slice none 0 0, .slice none 0 0, .slice none 0 0, .slice none 0 0, .slice none 0 0] 33)).alloc (.cells #[.int .i64 2, .slice none 0 0, .slice none 0 0, .slice none 0 0, .slice none 0 0, .slice none 0 0] 33)) w.heap.size) := (Six.new w _ _ _ _ _ _ _).ext ((Ext.refl _).alloc _)
  have HB0 : Hid (NBox ((w.alloc (.cells #[.int .i64 0, .slice none 0 0, .slice none 0 0, .slice none 0 0, .slice none 0 0, .slice none 0 0] 33)).alloc (.cells #[.int .i64 2, .slice none 0 0, .slice none 0 0, .slice none 0 0, .slice none 0 0, .slice none 0 0] 33)) (w.heap.size + 1) (NV.mk 2 none 0 0 none 0 0 none 0 0 none 0 0 none 0 0)) := by
    have := NBox.new (w.alloc (.cells #[.int .i64 0, .slice none 0 0, .slice none 0 0, .slice none 0 0, .slice none 0 0, .slice none 0 0] 33)) (NV.mk 2 none 0 0 none 0 0 none 0 0 none 0 0 none 0 0)
    rw [show (w.alloc (.cells #[.int .i64 0, .slice none 0 0, .slice none 0 0, .slice none 0 0, .slice none 0 0, .slice none 0 0] 33)).heap.size = w.heap.size + 1 by simp] at this
    exact this
  have HS0 : Hid (Six ((w.alloc (.cells #[.int .i64 0, .slice none 0 0, .slice none 0 0, .slice none 0 0, .slice none 0 0, .slice none 0 0] 33)).alloc (.cells #[.int .i64 2, .slice none 0 0, .slice none 0 0, .slice none 0 0, .slice none 0 0, .slice none 0 0] 33)) (w.heap.size + 1)) := by
    have := Six.new (w.alloc (.cells #[.int .i64 0, .slice none 0 0, .slice none 0 0, .slice none 0 0, .slice none 0 0, .slice none 0 0] 33)) (.int .i64 2) (.slice none 0 0) (.slice none 0 0) (.slice none 0 0) (.slice none 0 0) (.slice none 0 0) 33
    rw [show (w.alloc (.cells #[.int .i64 0, .slice none 0 0, .slice none 0 0, .slice none 0 0, .slice none 0 0, .slice none 0 0] 33)).heap.size = w.heap.size + 1 by simp] at this
    exact this
  have E0 : Ext w ((w.alloc (.cells #[.int .i64 0, .slice none 0 0, .slice none 0 0, .slice none 0 0, .slice none 0 0, .slice none 0 0] 33)).alloc (.cells #[.int .i64 2, .slice none 0 0, .slice none 0 0, .slice none 0 0, .slice none 0 0, .slice none 0 0] 33)) := ((Ext.refl _).alloc _).alloc _
  go_enter Tryz.func32, Tryz.ntmps32
  go_wp2_with fail
  (with_reducible refine (l04Single_any A n c p _ (hI.ext E0) hn).mono ?_)
  rintro e w4 ⟨C, d, rfl, hR, hx4⟩
  have E4 := E0.trans hx4
  have hz4 := hx4.size
  (try simp at hz4)
  have HR4 := Lib.hid (HR0.out.ext hx4)
  obtain ⟨y0, x0⟩ := HR4.out.c 0 (by omega)
  obtain ⟨y1, x1⟩ := HR4.out.c 1 (by omega)
  obtain ⟨y2, x2⟩ := HR4.out.c 2 (by omega)
  obtain ⟨y3, x3⟩ := HR4.out.c 3 (by omega)
  obtain ⟨y4, x4⟩ := HR4.out.c 4 (by omega)
  obtain ⟨y5, x5⟩ := HR4.out.c 5 (by omega)
  have xf := HR4.out.f
  have xl := HR4.out.lt
  obtain ⟨lb, m0, m1, m2, m3, m4, m5⟩ := HB0.out.ext hx4
  dsimp only at m0 m1 m2 m3 m4 m5
  have mf := (HS0.out.ext hx4).f
  have hR4 : LRow w4 (w.heap.size + 2) w4.heap.size C n d (wrp p) := by simpa using hR
  have HD := Lib.hid (cn_done (w := w) (W := w4.setCell ⟨w.heap.size + 1, 2, none⟩ (.slice C n d)) (g := w.heap.size) (V := (NV.mk 2 none 0 0 C n d none 0 0 none 0 0 none 0 0)) (D := ⟨2, [], wrp p, [], [], []⟩) (lo := w.heap.size + 2) (hi := w4.heap.size) (HR4.out.set _ _) ⟨rfl, w.heap.size + 2, w.heap.size + 2, w.heap.size + 2, w4.heap.size, w.heap.size + 2, w.heap.size + 2, w.heap.size + 2, w.heap.size + 2, ⟨by omega, by omega, by omega, by omega, by omega, by omega, by omega, by omega, by omega, by omega⟩, .inr ⟨rfl, rfl⟩, .inl (hR4.far (.inl (by show w.heap.size + 1 < _; omega)) _), .inr ⟨rfl, rfl⟩, .inr ⟨rfl, rfl, rfl, rfl⟩⟩ (Nat.le_refl _) (by omega) (by simp [World.setCell]) (E4.set (by show w.heap.size ≤ w.heap.size + 1; omega) _) tz 0)
  clear hR hR4
  go_wp2
  refine bodyPost_ret (v := .tuple #[(NV.mk 2 none 0 0 C n d none 0 0 none 0 0 none 0 0).val, .string tz, .int .i64 0]) ?_ ?_ ?_
  · exact results_not3 Tryz.results32 rfl HD.out.1
  · rfl
  · exact HD.out.2
set_option maxHeartbeats 4000000 in
theorem from3 (A : Option Addr) (n c : Nat) (p : List Int) (w : World) (hI : Ints w A n p) (hv : vpat p = true) : Calls Tryz.prog 32 #[.slice A n c, .int .i64 3] w (RetCn w (⟨3, [], [], (pup p).1, [], []⟩, tT, (pup p).2)) := by
  have HR0 : Hid (Six ((w.alloc (.cells #[.int .i64 0, .slice none 0 0, .slice none 0 0, .slice none 0 0, .slice none 0 0, .slice none 0 0] 33)).alloc (.cells #[.int .i64 3, .slice none 0 0, .slice none 0 0, .slice none 0 0, .slice none 0 0, .slice none 0 0] 33)) w.heap.size) := (Six.new w _ _ _ _ _ _ _).ext ((Ext.refl _).alloc _)
  have HB0 : Hid (NBox ((w.alloc (.cells #[.int .i64 0, .slice none 0 0, .slice none 0 0, .slice none 0 0, .slice none 0 0, .slice none 0 0] 33)).alloc (.cells #[.int .i64 3, .slice none 0 0, .slice none 0 0, .slice none 0 0, .slice none 0 0, .slice none 0 0] 33)) (w.heap.size + 1) (NV.mk 3 none 0 0 none 0 0 none 0 0 none 0 0 none 0 0)) := by
    have := NBox.new (w.alloc (.cells #[.int .i64 0, .slice none 0 0, .slice none 0 0, .slice none 0 0, .slice none 0 0, .slice none 0 0] 33)) (NV.mk 3 none 0 0 none 0 0 none 0 0 none 0 0 none 0 0)
    rw [show (w.alloc (.cells #[.int .i64 0, .slice none 0 0, .slice none 0 0, .slice none 0 0, .slice none 0 0, .slice none 0 0] 33)).heap.size = w.heap.size + 1 by simp] at this
    exact this
  have HS0 : Hid (Six ((w.alloc (.cells #[.int .i64 0, .slice none 0 0, .slice none 0 0, .slice none 0 0, .slice none 0 0, .slice none 0 0] 33)).alloc (.cells #[.int .i64 3, .slice none 0 0, .slice none 0 0, .slice none 0 0, .slice none 0 0, .slice none 0 0] 33)) (w.heap.size + 1)) := by
    have := Six.new (w.alloc (.cells #[.int .i64 0, .slice none 0 0, .slice none 0 0, .slice none 0 0, .slice none 0 0, .slice none 0 0] 33)) (.int .i64 3) (.slice none 0 0) (.slice none 0 0) (.slice none 0 0) (.slice none 0 0) (.slice none 0 0) 33
    rw [show (w.alloc (.cells #[.int .i64 0, .slice none 0 0, .slice none 0 0, .slice none 0 0, .slice none 0 0, .slice none 0 0] 33)).heap.size = w.heap.size + 1 by simp] at this
    exact this
  have E0 : Ext w ((w.alloc (.cells #[.int .i64 0, .slice none 0 0, .slice none 0 0, .slice none 0 0, .slice none 0 0, .slice none 0 0] 33)).alloc (.cells #[.int .i64 3, .slice none 0 0, .slice none 0 0, .slice none 0 0, .slice none 0 0, .slice none 0 0] 33)) := ((Ext.refl _).alloc _).alloc _
  obtain ⟨z, hzz⟩ : ∃ z, pup p = z := ⟨_, rfl⟩
  have HZ := Lib.hid hzz
  rw [hzz]
  clear hzz
  go_enter Tryz.func32, Tryz.ntmps32
  go_wp2_with fail
  (with_reducible refine (specPairUp_any A n c p _ (hI.ext E0) hv).mono ?_)
  rw [HZ.out]
  rintro e w4 ⟨C, m, d, rfl, hR, hx4⟩
  have E4 := E0.trans hx4
  have hz4 := hx4.size
  (try simp at hz4)
  have HR4 := Lib.hid (HR0.out.ext hx4)
  obtain ⟨y0, x0⟩ := HR4.out.c 0 (by omega)
  obtain ⟨y1, x1⟩ := HR4.out.c 1 (by omega)
  obtain ⟨y2, x2⟩ := HR4.out.c 2 (by omega)
  obtain ⟨y3, x3⟩ := HR4.out.c 3 (by omega)
  obtain ⟨y4, x4⟩ := HR4.out.c 4 (by omega)
  obtain ⟨y5, x5⟩ := HR4.out.c 5 (by omega)
  have xf := HR4.out.f
  have xl := HR4.out.lt
  obtain ⟨lb, m0, m1, m2, m3, m4, m5⟩ := HB0.out.ext hx4
  dsimp only at m0 m1 m2 m3 m4 m5
  have mf := (HS0.out.ext hx4).f
  have hR4 : RowS w4 (w.heap.size + 2) w4.heap.size C m d z.1 := by simpa using hR
  have HD := Lib.hid (cn_done (w := w) (W := w4.setCell ⟨w.heap.size + 1, 3, none⟩ (.slice C m d)) (g := w.heap.size) (V := (NV.mk 3 none 0 0 none 0 0 C m d none 0 0 none 0 0)) (D := ⟨3, [], [], z.1, [], []⟩) (lo := w.heap.size + 2) (hi := w4.heap.size) (HR4.out.set _ _) ⟨rfl, w.heap.size + 2, w.heap.size + 2, w.heap.size + 2, w.heap.size + 2, w.heap.size + 2, w4.heap.size, w.heap.size + 2, w.heap.size + 2, ⟨by omega, by omega, by omega, by omega, by omega, by omega, by omega, by omega, by omega, by omega⟩, .inr ⟨rfl, rfl⟩, .inr ⟨rfl, rfl⟩, .inl (hR4.far (.inl (by show w.heap.size + 1 < _; omega)) _), .inr ⟨rfl, rfl, rfl, rfl⟩⟩ (Nat.le_refl _) (by omega) (by simp [World.setCell]) (E4.set (by show w.heap.size ≤ w.heap.size + 1; omega) _) tT z.2)
  clear hR hR4
  go_wp2
  refine bodyPost_ret (v := .tuple #[(NV.mk 3 none 0 0 none 0 0 C m d none 0 0 none 0 0).val, .string tT, .int .i64 z.2]) ?_ ?_ ?_
  · exact results_not3 Tryz.results32 rfl HD.out.1
  · rfl
  · exact HD.out.2
set_option maxHeartbeats 4000000 in
theorem from4 (A : Option Addr) (n c : Nat) (p : List Int) (w : World) (hI : Ints w A n p) (hv : vpat p = true) (hn : 1 ≤ n ∧ n ≤ 8) : Calls Tryz.prog 32 #[.slice A n c, .int .i64 4] w (RetCn w (⟨4, [], [], [], sf p, sf p⟩, tz, 0)) := by
  have HR0 : Hid (Six ((w.alloc (.cells #[.int .i64 0, .slice none 0 0, .slice none 0 0, .slice none 0 0, .slice none 0 0, .slice none 0 0] 33)).alloc (.cells #[.int .i64 4, .slice none 0 0, .slice none 0 0, .slice none 0 0, .slice none 0 0, .slice none 0 0] 33)) w.heap.size) := (Six.new w _ _ _ _ _ _ _).ext ((Ext.refl _).alloc _)
  have HB0 : Hid (NBox ((w.alloc (.cells #[.int .i64 0, .slice none 0 0, .slice none 0 0, .slice none 0 0, .slice none 0 0, .slice none 0 0] 33)).alloc (.cells #[.int .i64 4, .slice none 0 0, .slice none 0 0, .slice none 0 0, .slice none 0 0, .slice none 0 0] 33)) (w.heap.size + 1) (NV.mk 4 none 0 0 none 0 0 none 0 0 none 0 0 none 0 0)) := by
    have := NBox.new (w.alloc (.cells #[.int .i64 0, .slice none 0 0, .slice none 0 0, .slice none 0 0, .slice none 0 0, .slice none 0 0] 33)) (NV.mk 4 none 0 0 none 0 0 none 0 0 none 0 0 none 0 0)
    rw [show (w.alloc (.cells #[.int .i64 0, .slice none 0 0, .slice none 0 0, .slice none 0 0, .slice none 0 0, .slice none 0 0] 33)).heap.size = w.heap.size + 1 by simp] at this
    exact this
  have HS0 : Hid (Six ((w.alloc (.cells #[.int .i64 0, .slice none 0 0, .slice none 0 0, .slice none 0 0, .slice none 0 0, .slice none 0 0] 33)).alloc (.cells #[.int .i64 4, .slice none 0 0, .slice none 0 0, .slice none 0 0, .slice none 0 0, .slice none 0 0] 33)) (w.heap.size + 1)) := by
    have := Six.new (w.alloc (.cells #[.int .i64 0, .slice none 0 0, .slice none 0 0, .slice none 0 0, .slice none 0 0, .slice none 0 0] 33)) (.int .i64 4) (.slice none 0 0) (.slice none 0 0) (.slice none 0 0) (.slice none 0 0) (.slice none 0 0) 33
    rw [show (w.alloc (.cells #[.int .i64 0, .slice none 0 0, .slice none 0 0, .slice none 0 0, .slice none 0 0, .slice none 0 0] 33)).heap.size = w.heap.size + 1 by simp] at this
    exact this
  have E0 : Ext w ((w.alloc (.cells #[.int .i64 0, .slice none 0 0, .slice none 0 0, .slice none 0 0, .slice none 0 0, .slice none 0 0] 33)).alloc (.cells #[.int .i64 4, .slice none 0 0, .slice none 0 0, .slice none 0 0, .slice none 0 0, .slice none 0 0] 33)) := ((Ext.refl _).alloc _).alloc _
  go_enter Tryz.func32, Tryz.ntmps32
  go_wp2_with fail
  (with_reducible refine (TogetherOf_any A A n c c p p _ (hI.ext E0) (hI.ext E0) hn hv hv).mono ?_)
  rintro e w4 ⟨C, d, C', d', rfl, hR, hx4⟩
  have E4 := E0.trans hx4
  have hz4 := hx4.size
  (try simp at hz4)
  have HR4 := Lib.hid (HR0.out.ext hx4)
  obtain ⟨y0, x0⟩ := HR4.out.c 0 (by omega)
  obtain ⟨y1, x1⟩ := HR4.out.c 1 (by omega)
  obtain ⟨y2, x2⟩ := HR4.out.c 2 (by omega)
  obtain ⟨y3, x3⟩ := HR4.out.c 3 (by omega)
  obtain ⟨y4, x4⟩ := HR4.out.c 4 (by omega)
  obtain ⟨y5, x5⟩ := HR4.out.c 5 (by omega)
  have xf := HR4.out.f
  have xl := HR4.out.lt
  obtain ⟨lb, m0, m1, m2, m3, m4, m5⟩ := HB0.out.ext hx4
  dsimp only at m0 m1 m2 m3 m4 m5
  have mf := (HS0.out.ext hx4).f
  have hR4 : PassR w4 (w.heap.size + 2) w4.heap.size C n d C' n d' (sf p) (sf p) := by simpa using hR
  have HD := Lib.hid (cn_done (w := w) (W := (w4.setCell ⟨w.heap.size + 1, 4, none⟩ (.slice C n d)).setCell ⟨w.heap.size + 1, 5, none⟩ (.slice C' n d')) (g := w.heap.size) (V := (NV.mk 4 none 0 0 none 0 0 none 0 0 C n d C' n d')) (D := ⟨4, [], [], [], sf p, sf p⟩) (lo := w.heap.size + 2) (hi := w4.heap.size) ((HR4.out.set _ _).set _ _) ⟨rfl, w.heap.size + 2, w.heap.size + 2, w.heap.size + 2, w.heap.size + 2, w.heap.size + 2, w.heap.size + 2, w.heap.size + 2, w4.heap.size, ⟨by omega, by omega, by omega, by omega, by omega, by omega, by omega, by omega, by omega, by omega⟩, .inr ⟨rfl, rfl⟩, .inr ⟨rfl, rfl⟩, .inr ⟨rfl, rfl⟩, .inl ((hR4.held (Kept.set (Kept.of_ext (Ext.refl _)) (lo := w.heap.size + 1) (hi := w.heap.size + 2) (p := ⟨w.heap.size + 1, 4, none⟩) (by simp) (.slice C n d)) (by omega)).held (Kept.set (Kept.of_ext (Ext.refl _)) (lo := w.heap.size + 1) (hi := w.heap.size + 2) (p := ⟨w.heap.size + 1, 5, none⟩) (by simp) (.slice C' n d')) (by omega))⟩ (Nat.le_refl _) (by omega) (by simp [World.setCell]) ((E4.set (by show w.heap.size ≤ w.heap.size + 1; omega) _).set (by show w.heap.size ≤ w.heap.size + 1; omega) _) tz 0)
  clear hR hR4
  go_wp2
  refine bodyPost_ret (v := .tuple #[(NV.mk 4 none 0 0 none 0 0 none 0 0 C n d C' n d').val, .string tz, .int .i64 0]) ?_ ?_ ?_
  · exact results_not3 Tryz.results32 rfl (HD.out.1.ext ((Ext.refl _).alloc (.cells #[.slice C n d, .slice C' n d'] 31)))
  · rfl
  · exact (HD.out.2.ext ((Ext.refl _).alloc (.cells #[.slice C n d, .slice C' n d'] 31)))
set_option maxHeartbeats 4000000 in
theorem from4z (A : Option Addr) (n c : Nat) (p : List Int) (w : World) (hI : Ints w A n p) (hv : vpat p = true) (hn : 9 ≤ n ∧ n ≤ 12) : Calls Tryz.prog 32 #[.slice A n c, .int .i64 4] w (RetCn w (⟨4, [], [], [], [], []⟩, tz, 5)) := by
  have HR0 : Hid (Six ((w.alloc (.cells #[.int .i64 0, .slice none 0 0, .slice none 0 0, .slice none 0 0, .slice none 0 0, .slice none 0 0] 33)).alloc (.cells #[.int .i64 4, .slice none 0 0, .slice none 0 0, .slice none 0 0, .slice none 0 0, .slice none 0 0] 33)) w.heap.size) := (Six.new w _ _ _ _ _ _ _).ext ((Ext.refl _).alloc _)
  have HB0 : Hid (NBox ((w.alloc (.cells #[.int .i64 0, .slice none 0 0, .slice none 0 0, .slice none 0 0, .slice none 0 0, .slice none 0 0] 33)).alloc (.cells #[.int .i64 4, .slice none 0 0, .slice none 0 0, .slice none 0 0, .slice none 0 0, .slice none 0 0] 33)) (w.heap.size + 1) (NV.mk 4 none 0 0 none 0 0 none 0 0 none 0 0 none 0 0)) := by
    have := NBox.new (w.alloc (.cells #[.int .i64 0, .slice none 0 0, .slice none 0 0, .slice none 0 0, .slice none 0 0, .slice none 0 0] 33)) (NV.mk 4 none 0 0 none 0 0 none 0 0 none 0 0 none 0 0)
    rw [show (w.alloc (.cells #[.int .i64 0, .slice none 0 0, .slice none 0 0, .slice none 0 0, .slice none 0 0, .slice none 0 0] 33)).heap.size = w.heap.size + 1 by simp] at this
    exact this
  have HS0 : Hid (Six ((w.alloc (.cells #[.int .i64 0, .slice none 0 0, .slice none 0 0, .slice none 0 0, .slice none 0 0, .slice none 0 0] 33)).alloc (.cells #[.int .i64 4, .slice none 0 0, .slice none 0 0, .slice none 0 0, .slice none 0 0, .slice none 0 0] 33)) (w.heap.size + 1)) := by
    have := Six.new (w.alloc (.cells #[.int .i64 0, .slice none 0 0, .slice none 0 0, .slice none 0 0, .slice none 0 0, .slice none 0 0] 33)) (.int .i64 4) (.slice none 0 0) (.slice none 0 0) (.slice none 0 0) (.slice none 0 0) (.slice none 0 0) 33
    rw [show (w.alloc (.cells #[.int .i64 0, .slice none 0 0, .slice none 0 0, .slice none 0 0, .slice none 0 0, .slice none 0 0] 33)).heap.size = w.heap.size + 1 by simp] at this
    exact this
  have E0 : Ext w ((w.alloc (.cells #[.int .i64 0, .slice none 0 0, .slice none 0 0, .slice none 0 0, .slice none 0 0, .slice none 0 0] 33)).alloc (.cells #[.int .i64 4, .slice none 0 0, .slice none 0 0, .slice none 0 0, .slice none 0 0, .slice none 0 0] 33)) := ((Ext.refl _).alloc _).alloc _
  go_enter Tryz.func32, Tryz.ntmps32
  go_wp2_with fail
  (with_reducible refine (TogetherOf_full A n c p _ (hI.ext E0) hn hv).mono ?_)
  rintro e w4 ⟨rfl, hx4⟩
  have E4 := E0.trans hx4
  have hz4 := hx4.size
  (try simp at hz4)
  have HR4 := Lib.hid (HR0.out.ext hx4)
  obtain ⟨y0, x0⟩ := HR4.out.c 0 (by omega)
  obtain ⟨y1, x1⟩ := HR4.out.c 1 (by omega)
  obtain ⟨y2, x2⟩ := HR4.out.c 2 (by omega)
  obtain ⟨y3, x3⟩ := HR4.out.c 3 (by omega)
  obtain ⟨y4, x4⟩ := HR4.out.c 4 (by omega)
  obtain ⟨y5, x5⟩ := HR4.out.c 5 (by omega)
  have xf := HR4.out.f
  have xl := HR4.out.lt
  obtain ⟨lb, m0, m1, m2, m3, m4, m5⟩ := HB0.out.ext hx4
  dsimp only at m0 m1 m2 m3 m4 m5
  have mf := (HS0.out.ext hx4).f
  have HD := Lib.hid (cn_done (w := w) (W := (w4.setCell ⟨w.heap.size + 1, 4, none⟩ (.slice none 0 0)).setCell ⟨w.heap.size + 1, 5, none⟩ (.slice none 0 0)) (g := w.heap.size) (V := (NV.mk 4 none 0 0 none 0 0 none 0 0 none 0 0 none 0 0)) (D := ⟨4, [], [], [], [], []⟩) (lo := w.heap.size + 2) (hi := w4.heap.size) ((HR4.out.set _ _).set _ _) ⟨rfl, w.heap.size + 2, w.heap.size + 2, w.heap.size + 2, w.heap.size + 2, w.heap.size + 2, w.heap.size + 2, w.heap.size + 2, w4.heap.size, ⟨by omega, by omega, by omega, by omega, by omega, by omega, by omega, by omega, by omega, by omega⟩, .inr ⟨rfl, rfl⟩, .inr ⟨rfl, rfl⟩, .inr ⟨rfl, rfl⟩, .inr ⟨rfl, rfl, rfl, rfl⟩⟩ (Nat.le_refl _) (by omega) (by simp [World.setCell]) ((E4.set (by show w.heap.size ≤ w.heap.size + 1; omega) _).set (by show w.heap.size ≤ w.heap.size + 1; omega) _) tz 5)
  skip
  go_wp2
  refine bodyPost_ret (v := .tuple #[(NV.mk 4 none 0 0 none 0 0 none 0 0 none 0 0 none 0 0).val, .string tz, .int .i64 5]) ?_ ?_ ?_
  · exact results_not3 Tryz.results32 rfl (HD.out.1.ext ((Ext.refl _).alloc (.cells #[.slice none 0 0, .slice none 0 0] 31)))
  · rfl
  · exact (HD.out.2.ext ((Ext.refl _).alloc (.cells #[.slice none 0 0, .slice none 0 0] 31)))
end Go.Proofs.YtbihbhdaenhdoaaGreat

namespace Go.Proofs.YtbihbhdaenhdoaaGreat
set_option linter.unusedVariables false
set_option linter.unusedSimpArgs false
open Go.ChangeShapes Go.WideShapes Go.ChangeAt Go.RowKit Go.Joins Go.Deep

theorem sgle_l3 (D : ND) : (sgle D).2.1 = tz ∨ (sgle D).2.1 = tT ∨ (sgle D).2.1 = tJ := by
  by_cases h : D.k = 3
  · right; left
    unfold sgle
    rw [if_neg (by omega), if_pos h]
  · rcases sgle_lost h with h | h
    · exact .inl h
    · exact .inr (.inr h)
theorem l07Ok_is (g : Nat) (V : NV) (D : ND) (v : Bool) (hv : vnt D = v) (w : World) (hB : NBox w g V) (hI : NtR w V D) :
    Calls Tryz.prog 28 #[.pointer (some ⟨g, 0, none⟩)] w fun e w' => e = .returned (.bool v) ∧ Ext w w' := by
  subst hv
  exact l07Ok_any g V D w hB hI
set_option maxRecDepth 100000 in
set_option maxHeartbeats 16000000 in
theorem specConvert_x (k : Int) (A : Option Addr) (na ca : Nat) (B : Option Addr) (nb cb : Nat) (S : Option Addr) (ns cs : Nat) (P : Option Addr) (np cp : Nat) (Q : Option Addr) (nq cq : Nat) (D : ND) (q : Int) (w : World) (hI : NtR w (⟨k, A, na, ca, B, nb, cb, S, ns, cs, P, np, cp, Q, nq, cq⟩ : NV) D) :
    Calls Tryz.prog 7 #[.agg #[.int .i64 k, .slice A na ca, .slice B nb cb, .slice S ns cs, .slice P np cp, .slice Q nq cq], .int .i64 q] w (RetCn w (cnv D q)) := by
  have HK : Hid (k = D.k) := hI.k
  have hse : D.s.length = 2 * (D.s.length / 2) := by have := hI.s.len; omega
  have HSE := Lib.hid hse
  obtain ⟨r, hr⟩ : ∃ r, cnv D q = r := ⟨_, rfl⟩
  rw [hr]
  have HR := Lib.hid hr
  clear hr hse
  have HV0 : Hid (NBox ((w.alloc (.cells #[.int .i64 k, .slice A na ca, .slice B nb cb, .slice S ns cs, .slice P np cp, .slice Q nq cq] 33)).alloc (.cells #[.int .i64 0, .slice none 0 0, .slice none 0 0, .slice none 0 0, .slice none 0 0, .slice none 0 0] 33)) w.heap.size (⟨k, A, na, ca, B, nb, cb, S, ns, cs, P, np, cp, Q, nq, cq⟩ : NV)) := (NBox.new w (⟨k, A, na, ca, B, nb, cb, S, ns, cs, P, np, cp, Q, nq, cq⟩ : NV)).ext ((Ext.refl _).alloc _)
  have HR0 : Hid (Six ((w.alloc (.cells #[.int .i64 k, .slice A na ca, .slice B nb cb, .slice S ns cs, .slice P np cp, .slice Q nq cq] 33)).alloc (.cells #[.int .i64 0, .slice none 0 0, .slice none 0 0, .slice none 0 0, .slice none 0 0, .slice none 0 0] 33)) (w.heap.size + 1)) := by
    have := Six.new (w.alloc (.cells #[.int .i64 k, .slice A na ca, .slice B nb cb, .slice S ns cs, .slice P np cp, .slice Q nq cq] 33)) (.int .i64 0) (.slice none 0 0) (.slice none 0 0) (.slice none 0 0) (.slice none 0 0) (.slice none 0 0) 33
    rw [show (w.alloc (.cells #[.int .i64 k, .slice A na ca, .slice B nb cb, .slice S ns cs, .slice P np cp, .slice Q nq cq] 33)).heap.size = w.heap.size + 1 by simp] at this
    exact this
  have E0 : Ext w ((w.alloc (.cells #[.int .i64 k, .slice A na ca, .slice B nb cb, .slice S ns cs, .slice P np cp, .slice Q nq cq] 33)).alloc (.cells #[.int .i64 0, .slice none 0 0, .slice none 0 0, .slice none 0 0, .slice none 0 0, .slice none 0 0] 33)) := ((Ext.refl _).alloc _).alloc _
  cases hv : vnt D
  · have HF : Hid (r = (NDz, tz, 1)) := by show _ = _; rw [← HR.out]; unfold cnv; rw [hv]; rfl
    go_enter Tryz.func7, Tryz.ntmps7
    go_wp2_with fail
    (with_reducible refine (l07Ok_is w.heap.size (⟨k, A, na, ca, B, nb, cb, S, ns, cs, P, np, cp, Q, nq, cq⟩ : NV) D _ hv _ HV0.out (hI.ext E0)).mono ?_)
    rintro e w1 ⟨rfl, hx1⟩
    have E1 := E0.trans hx1
    have HV1 := Lib.hid (HV0.out.ext hx1)
    have HR1 := Lib.hid (HR0.out.ext hx1)
    obtain ⟨l0, b0, b1, b2, b3, b4, b5⟩ := HV1.out
    dsimp only at b0 b1 b2 b3 b4 b5
    obtain ⟨y0, x0⟩ := HR1.out.c 0 (by omega)
    obtain ⟨y1, x1⟩ := HR1.out.c 1 (by omega)
    obtain ⟨y2, x2⟩ := HR1.out.c 2 (by omega)
    obtain ⟨y3, x3⟩ := HR1.out.c 3 (by omega)
    obtain ⟨y4, x4⟩ := HR1.out.c 4 (by omega)
    obtain ⟨y5, x5⟩ := HR1.out.c 5 (by omega)
    have xf := HR1.out.f
    have xl := HR1.out.lt
    have HD := Lib.hid (cn_done (w := w) HR1.out (NtO.none w1 (Nat.le_refl w1.heap.size)) (by omega) (by omega) (Nat.le_refl _) E1 tz 1)
    go_wp2
    refine bodyPost_ret (v := .tuple #[NVz.val, .string tz, .int .i64 1]) ?_ ?_ ?_
    · exact results_not3 Tryz.results7 rfl HD.out.1
    · rfl
    · rw [HF.out]
      exact HD.out.2
  · cases hb : btw q 1 4
    · have HF : Hid (r = (NDz, tz, 2)) := by show _ = _; rw [← HR.out]; unfold cnv; rw [if_pos hv, hb]; rfl
      go_enter Tryz.func7, Tryz.ntmps7
      go_wp2_with fail
      (with_reducible refine (l07Ok_is w.heap.size (⟨k, A, na, ca, B, nb, cb, S, ns, cs, P, np, cp, Q, nq, cq⟩ : NV) D _ hv _ HV0.out (hI.ext E0)).mono ?_)
      rintro e w1 ⟨rfl, hx1⟩
      have E1 := E0.trans hx1
      have HV1 := Lib.hid (HV0.out.ext hx1)
      have HR1 := Lib.hid (HR0.out.ext hx1)
      obtain ⟨l0, b0, b1, b2, b3, b4, b5⟩ := HV1.out
      dsimp only at b0 b1 b2 b3 b4 b5
      obtain ⟨y0, x0⟩ := HR1.out.c 0 (by omega)
      obtain ⟨y1, x1⟩ := HR1.out.c 1 (by omega)
      obtain ⟨y2, x2⟩ := HR1.out.c 2 (by omega)
      obtain ⟨y3, x3⟩ := HR1.out.c 3 (by omega)
      obtain ⟨y4, x4⟩ := HR1.out.c 4 (by omega)
      obtain ⟨y5, x5⟩ := HR1.out.c 5 (by omega)
      have xf := HR1.out.f
      have xl := HR1.out.lt
      have HD := Lib.hid (cn_done (w := w) HR1.out (NtO.none w1 (Nat.le_refl w1.heap.size)) (by omega) (by omega) (Nat.le_refl _) E1 tz 2)
      go_wp2_with (go_at_call 29; (with_reducible refine (l00In_is _ _ _ _ hb _).mono ?_); rintro e w' ⟨rfl, rfl⟩)
      refine bodyPost_ret (v := .tuple #[NVz.val, .string tz, .int .i64 2]) ?_ ?_ ?_
      · exact results_not3 Tryz.results7 rfl HD.out.1
      · rfl
      · rw [HF.out]
        exact HD.out.2
    · by_cases hkq : q = k
      · have HF : Hid (r = (D, tz, 0)) := by show _ = _; rw [← HR.out]; unfold cnv; rw [if_pos hv, if_pos hb, if_pos (by have := HK.out; omega)]
        subst hkq
        clear HR
        go_enter Tryz.func7, Tryz.ntmps7
        go_wp2_with fail
        (with_reducible refine (l07Ok_is w.heap.size (⟨q, A, na, ca, B, nb, cb, S, ns, cs, P, np, cp, Q, nq, cq⟩ : NV) D _ hv _ HV0.out (hI.ext E0)).mono ?_)
        rintro e w1 ⟨rfl, hx1⟩
        have E1 := E0.trans hx1
        have HV1 := Lib.hid (HV0.out.ext hx1)
        have HR1 := Lib.hid (HR0.out.ext hx1)
        obtain ⟨l0, b0, b1, b2, b3, b4, b5⟩ := HV1.out
        dsimp only at b0 b1 b2 b3 b4 b5
        obtain ⟨y0, x0⟩ := HR1.out.c 0 (by omega)
        obtain ⟨y1, x1⟩ := HR1.out.c 1 (by omega)
        obtain ⟨y2, x2⟩ := HR1.out.c 2 (by omega)
        obtain ⟨y3, x3⟩ := HR1.out.c 3 (by omega)
        obtain ⟨y4, x4⟩ := HR1.out.c 4 (by omega)
        obtain ⟨y5, x5⟩ := HR1.out.c 5 (by omega)
        have xf := HR1.out.f
        have xl := HR1.out.lt
        go_wp2_with (go_at_call 29; (with_reducible refine (l00In_is _ _ _ _ hb _).mono ?_); rintro e w' ⟨rfl, rfl⟩)
        (with_reducible refine (l07Copy_all w.heap.size (⟨q, A, na, ca, B, nb, cb, S, ns, cs, P, np, cp, Q, nq, cq⟩ : NV) D _ HV1.out (hI.ext E1) hv).mono ?_)
        have hl1 : w.heap.size + 1 < w1.heap.size := HR1.out.lt
        rintro e w2 ⟨⟨k', A', na', ca', B', nb', cb', S', ns', cs', P', np', cp', Q', nq', cq'⟩, rfl, hO, hx2⟩
        have E2 := E1.trans hx2
        have hz2 := hx2.size
        have HV2 := Lib.hid (HV1.out.ext hx2)
        have HR2 := Lib.hid (HR1.out.ext hx2)
        clear b0 b1 b2 b3 b4 b5 x0 x1 x2 x3 x4 x5 xf xl
        obtain ⟨l0, b0, b1, b2, b3, b4, b5⟩ := HV2.out
        dsimp only at b0 b1 b2 b3 b4 b5
        obtain ⟨y0, x0⟩ := HR2.out.c 0 (by omega)
        obtain ⟨y1, x1⟩ := HR2.out.c 1 (by omega)
        obtain ⟨y2, x2⟩ := HR2.out.c 2 (by omega)
        obtain ⟨y3, x3⟩ := HR2.out.c 3 (by omega)
        obtain ⟨y4, x4⟩ := HR2.out.c 4 (by omega)
        obtain ⟨y5, x5⟩ := HR2.out.c 5 (by omega)
        have xf := HR2.out.f
        have xl := HR2.out.lt
        have HD := Lib.hid (cn_done (w := w) HR2.out hO (by omega) (by omega) (Nat.le_refl _) E2 tz 0)
        clear hO
        unfold NV.val
        dsimp only
        go_wp2
        refine bodyPost_ret (v := (.tuple #[(NV.mk k' A' na' ca' B' nb' cb' S' ns' cs' P' np' cp' Q' nq' cq').val, .string tz, .int .i64 0])) ?_ ?_ ?_
        · exact results_not3 Tryz.results7 rfl HD.out.1
        · rfl
        · rw [HF.out]
          exact HD.out.2
      · have HF : Hid (r = if (sgle D).2.2 = 0 then cnk (sgle D).1 (sgle D).2.1 q else (NDz, tz, (sgle D).2.2)) := by show _ = _; rw [← HR.out]; unfold cnv; rw [if_pos hv, if_pos hb, if_neg (by have := HK.out; omega)]
        have HVP : Hid ((sgle D).2.2 = 0 → vpat (sgle D).1 = true) := fun h => sgle_vpat hv HSE.out h
        have HLO : Hid (q = 3 → (sgle D).2.1 = tz ∨ (sgle D).2.1 = tJ) := fun h => sgle_lost (by have := HK.out; omega)
        have HL3 := Lib.hid (sgle_l3 D)
        clear HR
        go_enter Tryz.func7, Tryz.ntmps7
        go_wp2_with fail
        (with_reducible refine (l07Ok_is w.heap.size (⟨k, A, na, ca, B, nb, cb, S, ns, cs, P, np, cp, Q, nq, cq⟩ : NV) D _ hv _ HV0.out (hI.ext E0)).mono ?_)
        rintro e w1 ⟨rfl, hx1⟩
        have E1 := E0.trans hx1
        have HV1 := Lib.hid (HV0.out.ext hx1)
        have HR1 := Lib.hid (HR0.out.ext hx1)
        obtain ⟨l0, b0, b1, b2, b3, b4, b5⟩ := HV1.out
        dsimp only at b0 b1 b2 b3 b4 b5
        obtain ⟨y0, x0⟩ := HR1.out.c 0 (by omega)
        obtain ⟨y1, x1⟩ := HR1.out.c 1 (by omega)
        obtain ⟨y2, x2⟩ := HR1.out.c 2 (by omega)
        obtain ⟨y3, x3⟩ := HR1.out.c 3 (by omega)
        obtain ⟨y4, x4⟩ := HR1.out.c 4 (by omega)
        obtain ⟨y5, x5⟩ := HR1.out.c 5 (by omega)
        have xf := HR1.out.f
        have xl := HR1.out.lt
        go_wp2_with (go_at_call 29; (with_reducible refine (l00In_is _ _ _ _ hb _).mono ?_); rintro e w' ⟨rfl, rfl⟩)
        (with_reducible refine (l07To_any w.heap.size (⟨k, A, na, ca, B, nb, cb, S, ns, cs, P, np, cp, Q, nq, cq⟩ : NV) D _ HV1.out (hI.ext E1) hv).mono ?_)
        intro e w2 hsl
        generalize sgle D = z at hsl HF HVP HLO HL3
        obtain ⟨p, l, c⟩ := z
        dsimp only at hsl HF HVP HLO HL3
        rcases hsl with ⟨hc, A1, c1, rfl, hO⟩ | ⟨hc, ⟨v, l', rfl⟩, hx2⟩
        · dsimp only at hc hO ⊢
          subst hc
          have HF2 : Hid (r = cnk p l q) := by show _ = _; rw [HF.out]; exact if_pos rfl
          have hvp := HVP.out rfl
          have hx2 := hO.ext
          have hz2 := hx2.size
          have E2 := E1.trans hx2
          have hl1 : w.heap.size + 1 < w1.heap.size := HR1.out.lt
          have hpl := vpat_len hvp
          obtain ⟨n, hn⟩ : ∃ n, p.length = n := ⟨_, rfl⟩
          rw [hn] at hO hpl ⊢
          have hbd := vpat_bd hvp
          have HIp : Hid (Ints w2 A1 n p) := hO.ints hn (by omega) hbd
          have HRW : Hid (Row w2 w1.heap.size w2.heap.size 2 1 A1 n c1 p) := Row.of_own hO hn
          clear hO hbd
          have HV2 := Lib.hid (HV1.out.ext hx2)
          have HR2 := Lib.hid (HR1.out.ext hx2)
          clear b0 b1 b2 b3 b4 b5 x0 x1 x2 x3 x4 x5 xf xl
          obtain ⟨l0, b0, b1, b2, b3, b4, b5⟩ := HV2.out
          dsimp only at b0 b1 b2 b3 b4 b5
          obtain ⟨y0, x0⟩ := HR2.out.c 0 (by omega)
          obtain ⟨y1, x1⟩ := HR2.out.c 1 (by omega)
          obtain ⟨y2, x2⟩ := HR2.out.c 2 (by omega)
          obtain ⟨y3, x3⟩ := HR2.out.c 3 (by omega)
          obtain ⟨y4, x4⟩ := HR2.out.c 4 (by omega)
          obtain ⟨y5, x5⟩ := HR2.out.c 5 (by omega)
          have xf := HR2.out.f
          have xl := HR2.out.lt
          rcases (show q = 1 ∨ q = 2 ∨ q = 3 ∨ q = 4 by have := btw_iff.1 hb; omega) with rfl | rfl | rfl | rfl
          · have HF3 : Hid (r = (⟨1, p, [], [], [], []⟩, l, 0)) := HF2.out
            have HLQ := HL3
            go_wp2_with fail
            (with_reducible refine (from1 A1 n c1 _).mono ?_)
            rintro e w4 ⟨rfl, hx4⟩
            have hO : NtO w4 w1.heap.size w2.heap.size (NV.mk 1 A1 n c1 none 0 0 none 0 0 none 0 0 none 0 0) ⟨1, p, [], [], [], []⟩ := ⟨rfl, w1.heap.size, w2.heap.size, w1.heap.size, w1.heap.size, w1.heap.size, w1.heap.size, w1.heap.size, w1.heap.size, ⟨by omega, by omega, by omega, by omega, by omega, by omega, by omega, by omega, by omega, by omega⟩, .inl (HRW.out.ext hx4), .inr ⟨rfl, rfl⟩, .inr ⟨rfl, rfl⟩, .inr ⟨rfl, rfl, rfl, rfl⟩⟩
            have hx4' : w2.heap.size ≤ w4.heap.size := hx4.size
            have E4 := E2.trans hx4
            have HV4 := Lib.hid (HV2.out.ext hx4)
            have HR4 := Lib.hid (HR2.out.ext hx4)
            clear b0 b1 b2 b3 b4 b5 x0 x1 x2 x3 x4 x5 xf xl
            obtain ⟨l0, b0, b1, b2, b3, b4, b5⟩ := HV4.out
            dsimp only at b0 b1 b2 b3 b4 b5
            obtain ⟨y0, x0⟩ := HR4.out.c 0 (by omega)
            obtain ⟨y1, x1⟩ := HR4.out.c 1 (by omega)
            obtain ⟨y2, x2⟩ := HR4.out.c 2 (by omega)
            obtain ⟨y3, x3⟩ := HR4.out.c 3 (by omega)
            obtain ⟨y4, x4⟩ := HR4.out.c 4 (by omega)
            obtain ⟨y5, x5⟩ := HR4.out.c 5 (by omega)
            have xf := HR4.out.f
            have xl := HR4.out.lt
            unfold NV.val
            dsimp only
            rcases HLQ.out with rfl | rfl | rfl
            · have HD := Lib.hid (cn_done (w := w) (V := (NV.mk 1 A1 n c1 none 0 0 none 0 0 none 0 0 none 0 0)) HR4.out hO (by omega) (by omega) (by omega) E4 tz 0)
              clear hO
              (try unfold tz)
              (try unfold tT)
              (try unfold tJ)
              go_wp2
              refine bodyPost_ret (v := .tuple #[(NV.mk 1 A1 n c1 none 0 0 none 0 0 none 0 0 none 0 0).val, .string tz, .int .i64 0]) ?_ ?_ ?_
              · exact results_not3 Tryz.results7 rfl (HD.out.1.ext ((Ext.refl _).alloc (.cells #[.int .i64 1, .slice A1 n c1, .slice none 0 0, .slice none 0 0, .slice none 0 0, .slice none 0 0] 33)))
              · rfl
              · rw [HF3.out]
                exact (HD.out.2.ext ((Ext.refl _).alloc (.cells #[.int .i64 1, .slice A1 n c1, .slice none 0 0, .slice none 0 0, .slice none 0 0, .slice none 0 0] 33)))
            · have HD := Lib.hid (cn_done (w := w) (V := (NV.mk 1 A1 n c1 none 0 0 none 0 0 none 0 0 none 0 0)) HR4.out hO (by omega) (by omega) (by omega) E4 tT 0)
              clear hO
              (try unfold tz)
              (try unfold tT)
              (try unfold tJ)
              go_wp2
              refine bodyPost_ret (v := .tuple #[(NV.mk 1 A1 n c1 none 0 0 none 0 0 none 0 0 none 0 0).val, .string tT, .int .i64 0]) ?_ ?_ ?_
              · exact results_not3 Tryz.results7 rfl (HD.out.1.ext ((Ext.refl _).alloc (.cells #[.int .i64 1, .slice A1 n c1, .slice none 0 0, .slice none 0 0, .slice none 0 0, .slice none 0 0] 33)))
              · rfl
              · rw [HF3.out]
                exact (HD.out.2.ext ((Ext.refl _).alloc (.cells #[.int .i64 1, .slice A1 n c1, .slice none 0 0, .slice none 0 0, .slice none 0 0, .slice none 0 0] 33)))
            · have HD := Lib.hid (cn_done (w := w) (V := (NV.mk 1 A1 n c1 none 0 0 none 0 0 none 0 0 none 0 0)) HR4.out hO (by omega) (by omega) (by omega) E4 tJ 0)
              clear hO
              (try unfold tz)
              (try unfold tT)
              (try unfold tJ)
              go_wp2
              refine bodyPost_ret (v := .tuple #[(NV.mk 1 A1 n c1 none 0 0 none 0 0 none 0 0 none 0 0).val, .string tJ, .int .i64 0]) ?_ ?_ ?_
              · exact results_not3 Tryz.results7 rfl (HD.out.1.ext ((Ext.refl _).alloc (.cells #[.int .i64 1, .slice A1 n c1, .slice none 0 0, .slice none 0 0, .slice none 0 0, .slice none 0 0] 33)))
              · rfl
              · rw [HF3.out]
                exact (HD.out.2.ext ((Ext.refl _).alloc (.cells #[.int .i64 1, .slice A1 n c1, .slice none 0 0, .slice none 0 0, .slice none 0 0, .slice none 0 0] 33)))
          · have HF3 : Hid (r = (⟨2, [], wrp p, [], [], []⟩, l, 0)) := HF2.out
            have HLQ := HL3
            go_wp2_with fail
            (with_reducible refine (from2 A1 n c1 p _ HIp.out (by omega)).mono ?_)
            rintro e w4 ⟨⟨k', A', na', ca', B', nb', cb', S', ns', cs', P', np', cp', Q', nq', cq'⟩, rfl, hO, hx4⟩
            have hx4' : w2.heap.size ≤ w4.heap.size := hx4.size
            have E4 := E2.trans hx4
            have HV4 := Lib.hid (HV2.out.ext hx4)
            have HR4 := Lib.hid (HR2.out.ext hx4)
            clear b0 b1 b2 b3 b4 b5 x0 x1 x2 x3 x4 x5 xf xl
            obtain ⟨l0, b0, b1, b2, b3, b4, b5⟩ := HV4.out
            dsimp only at b0 b1 b2 b3 b4 b5
            obtain ⟨y0, x0⟩ := HR4.out.c 0 (by omega)
            obtain ⟨y1, x1⟩ := HR4.out.c 1 (by omega)
            obtain ⟨y2, x2⟩ := HR4.out.c 2 (by omega)
            obtain ⟨y3, x3⟩ := HR4.out.c 3 (by omega)
            obtain ⟨y4, x4⟩ := HR4.out.c 4 (by omega)
            obtain ⟨y5, x5⟩ := HR4.out.c 5 (by omega)
            have xf := HR4.out.f
            have xl := HR4.out.lt
            unfold NV.val
            dsimp only
            rcases HLQ.out with rfl | rfl | rfl
            · have HD := Lib.hid (cn_done (w := w) (V := (NV.mk k' A' na' ca' B' nb' cb' S' ns' cs' P' np' cp' Q' nq' cq')) HR4.out hO (by omega) (by omega) (by omega) E4 tz 0)
              clear hO
              (try unfold tz)
              (try unfold tT)
              (try unfold tJ)
              go_wp2
              refine bodyPost_ret (v := .tuple #[(NV.mk k' A' na' ca' B' nb' cb' S' ns' cs' P' np' cp' Q' nq' cq').val, .string tz, .int .i64 0]) ?_ ?_ ?_
              · exact results_not3 Tryz.results7 rfl (HD.out.1.ext ((Ext.refl _).alloc (.cells #[.int .i64 k', .slice A' na' ca', .slice B' nb' cb', .slice S' ns' cs', .slice P' np' cp', .slice Q' nq' cq'] 33)))
              · rfl
              · rw [HF3.out]
                exact (HD.out.2.ext ((Ext.refl _).alloc (.cells #[.int .i64 k', .slice A' na' ca', .slice B' nb' cb', .slice S' ns' cs', .slice P' np' cp', .slice Q' nq' cq'] 33)))
            · have HD := Lib.hid (cn_done (w := w) (V := (NV.mk k' A' na' ca' B' nb' cb' S' ns' cs' P' np' cp' Q' nq' cq')) HR4.out hO (by omega) (by omega) (by omega) E4 tT 0)
              clear hO
              (try unfold tz)
              (try unfold tT)
              (try unfold tJ)
              go_wp2
              refine bodyPost_ret (v := .tuple #[(NV.mk k' A' na' ca' B' nb' cb' S' ns' cs' P' np' cp' Q' nq' cq').val, .string tT, .int .i64 0]) ?_ ?_ ?_
              · exact results_not3 Tryz.results7 rfl (HD.out.1.ext ((Ext.refl _).alloc (.cells #[.int .i64 k', .slice A' na' ca', .slice B' nb' cb', .slice S' ns' cs', .slice P' np' cp', .slice Q' nq' cq'] 33)))
              · rfl
              · rw [HF3.out]
                exact (HD.out.2.ext ((Ext.refl _).alloc (.cells #[.int .i64 k', .slice A' na' ca', .slice B' nb' cb', .slice S' ns' cs', .slice P' np' cp', .slice Q' nq' cq'] 33)))
            · have HD := Lib.hid (cn_done (w := w) (V := (NV.mk k' A' na' ca' B' nb' cb' S' ns' cs' P' np' cp' Q' nq' cq')) HR4.out hO (by omega) (by omega) (by omega) E4 tJ 0)
              clear hO
              (try unfold tz)
              (try unfold tT)
              (try unfold tJ)
              go_wp2
              refine bodyPost_ret (v := .tuple #[(NV.mk k' A' na' ca' B' nb' cb' S' ns' cs' P' np' cp' Q' nq' cq').val, .string tJ, .int .i64 0]) ?_ ?_ ?_
              · exact results_not3 Tryz.results7 rfl (HD.out.1.ext ((Ext.refl _).alloc (.cells #[.int .i64 k', .slice A' na' ca', .slice B' nb' cb', .slice S' ns' cs', .slice P' np' cp', .slice Q' nq' cq'] 33)))
              · rfl
              · rw [HF3.out]
                exact (HD.out.2.ext ((Ext.refl _).alloc (.cells #[.int .i64 k', .slice A' na' ca', .slice B' nb' cb', .slice S' ns' cs', .slice P' np' cp', .slice Q' nq' cq'] 33)))
          · have HLQ := Lib.hid (HLO.out rfl)
            have HF3 : Hid (r = if (pup p).2 = 0 then (⟨3, [], [], (pup p).1, [], []⟩, jn l, 0) else (NDz, tz, (pup p).2)) := HF2.out
            go_wp2_with fail
            (with_reducible refine (from3 A1 n c1 p _ HIp.out hvp).mono ?_)
            generalize pup p = z at HF3 ⊢
            obtain ⟨ts, rc⟩ := z
            dsimp only at HF3 ⊢
            rintro e w4 ⟨⟨k', A', na', ca', B', nb', cb', S', ns', cs', P', np', cp', Q', nq', cq'⟩, rfl, hO, hx4⟩
            by_cases hrc : rc = 0
            · subst hrc
              have HF4 : Hid (r = (⟨3, [], [], ts, [], []⟩, jn l, 0)) := by show _ = _; rw [HF3.out]; exact if_pos rfl
              have hx4' : w2.heap.size ≤ w4.heap.size := hx4.size
              have E4 := E2.trans hx4
              have HV4 := Lib.hid (HV2.out.ext hx4)
              have HR4 := Lib.hid (HR2.out.ext hx4)
              clear b0 b1 b2 b3 b4 b5 x0 x1 x2 x3 x4 x5 xf xl
              obtain ⟨l0, b0, b1, b2, b3, b4, b5⟩ := HV4.out
              dsimp only at b0 b1 b2 b3 b4 b5
              obtain ⟨y0, x0⟩ := HR4.out.c 0 (by omega)
              obtain ⟨y1, x1⟩ := HR4.out.c 1 (by omega)
              obtain ⟨y2, x2⟩ := HR4.out.c 2 (by omega)
              obtain ⟨y3, x3⟩ := HR4.out.c 3 (by omega)
              obtain ⟨y4, x4⟩ := HR4.out.c 4 (by omega)
              obtain ⟨y5, x5⟩ := HR4.out.c 5 (by omega)
              have xf := HR4.out.f
              have xl := HR4.out.lt
              unfold NV.val
              dsimp only
              rcases HLQ.out with rfl | rfl
              · have HD := Lib.hid (cn_done (w := w) (V := (NV.mk k' A' na' ca' B' nb' cb' S' ns' cs' P' np' cp' Q' nq' cq')) HR4.out hO (by omega) (by omega) (by omega) E4 tT 0)
                clear hO
                (try unfold tz)
                (try unfold tT)
                (try unfold tJ)
                go_wp2
                refine bodyPost_ret (v := .tuple #[(NV.mk k' A' na' ca' B' nb' cb' S' ns' cs' P' np' cp' Q' nq' cq').val, .string tT, .int .i64 0]) ?_ ?_ ?_
                · exact results_not3 Tryz.results7 rfl (HD.out.1.ext ((Ext.refl _).alloc (.cells #[.int .i64 k', .slice A' na' ca', .slice B' nb' cb', .slice S' ns' cs', .slice P' np' cp', .slice Q' nq' cq'] 33)))
                · rfl
                · rw [HF4.out, jn_z]
                  exact (HD.out.2.ext ((Ext.refl _).alloc (.cells #[.int .i64 k', .slice A' na' ca', .slice B' nb' cb', .slice S' ns' cs', .slice P' np' cp', .slice Q' nq' cq'] 33)))
              · have HD := Lib.hid (cn_done (w := w) (V := (NV.mk k' A' na' ca' B' nb' cb' S' ns' cs' P' np' cp' Q' nq' cq')) HR4.out hO (by omega) (by omega) (by omega) E4 tJT 0)
                clear hO
                (try unfold tz)
                (try unfold tT)
                (try unfold tJ)
                go_wp2
                refine bodyPost_ret (v := .tuple #[(NV.mk k' A' na' ca' B' nb' cb' S' ns' cs' P' np' cp' Q' nq' cq').val, .string tJT, .int .i64 0]) ?_ ?_ ?_
                · exact results_not3 Tryz.results7 rfl (HD.out.1.ext ((Ext.refl _).alloc (.cells #[.int .i64 k', .slice A' na' ca', .slice B' nb' cb', .slice S' ns' cs', .slice P' np' cp', .slice Q' nq' cq'] 33)))
                · rfl
                · rw [HF4.out, jn_j]
                  exact (HD.out.2.ext ((Ext.refl _).alloc (.cells #[.int .i64 k', .slice A' na' ca', .slice B' nb' cb', .slice S' ns' cs', .slice P' np' cp', .slice Q' nq' cq'] 33)))
            · have HF4 : Hid (r = (NDz, tz, rc)) := by show _ = _; rw [HF3.out]; exact if_neg hrc
              have E4 := E2.trans hx4
              have HV4 := Lib.hid (HV2.out.ext hx4)
              have HR4 := Lib.hid (HR2.out.ext hx4)
              clear b0 b1 b2 b3 b4 b5 x0 x1 x2 x3 x4 x5 xf xl
              obtain ⟨l0, b0, b1, b2, b3, b4, b5⟩ := HV4.out
              dsimp only at b0 b1 b2 b3 b4 b5
              obtain ⟨y0, x0⟩ := HR4.out.c 0 (by omega)
              obtain ⟨y1, x1⟩ := HR4.out.c 1 (by omega)
              obtain ⟨y2, x2⟩ := HR4.out.c 2 (by omega)
              obtain ⟨y3, x3⟩ := HR4.out.c 3 (by omega)
              obtain ⟨y4, x4⟩ := HR4.out.c 4 (by omega)
              obtain ⟨y5, x5⟩ := HR4.out.c 5 (by omega)
              have xf := HR4.out.f
              have xl := HR4.out.lt
              have HD := Lib.hid (cn_done (w := w) HR4.out (NtO.none w4 (Nat.le_refl w4.heap.size)) (by omega) (by omega) (Nat.le_refl _) E4 tz rc)
              unfold NV.val
              dsimp only
              go_wp2
              refine bodyPost_ret (v := .tuple #[NVz.val, .string tz, .int .i64 rc]) ?_ ?_ ?_
              · exact results_not3 Tryz.results7 rfl (HD.out.1.ext ((Ext.refl _).alloc (.cells #[.int .i64 k', .slice A' na' ca', .slice B' nb' cb', .slice S' ns' cs', .slice P' np' cp', .slice Q' nq' cq'] 33)))
              · rfl
              · rw [HF4.out]
                exact (HD.out.2.ext ((Ext.refl _).alloc (.cells #[.int .i64 k', .slice A' na' ca', .slice B' nb' cb', .slice S' ns' cs', .slice P' np' cp', .slice Q' nq' cq'] 33)))
          · by_cases h8 : n ≤ 8
            · have HF3 : Hid (r = (⟨4, [], [], [], sf p, sf p⟩, l, 0)) := by show _ = _; rw [HF2.out]; unfold cnk; exact (if_neg (by decide)).trans ((if_neg (by decide)).trans ((if_neg (by decide)).trans (if_pos (by omega))))
              have HLQ := HL3
              go_wp2_with fail
              (with_reducible refine (from4 A1 n c1 p _ HIp.out hvp (by omega)).mono ?_)
              rintro e w4 ⟨⟨k', A', na', ca', B', nb', cb', S', ns', cs', P', np', cp', Q', nq', cq'⟩, rfl, hO, hx4⟩
              have hx4' : w2.heap.size ≤ w4.heap.size := hx4.size
              have E4 := E2.trans hx4
              have HV4 := Lib.hid (HV2.out.ext hx4)
              have HR4 := Lib.hid (HR2.out.ext hx4)
              clear b0 b1 b2 b3 b4 b5 x0 x1 x2 x3 x4 x5 xf xl
              obtain ⟨l0, b0, b1, b2, b3, b4, b5⟩ := HV4.out
              dsimp only at b0 b1 b2 b3 b4 b5
              obtain ⟨y0, x0⟩ := HR4.out.c 0 (by omega)
              obtain ⟨y1, x1⟩ := HR4.out.c 1 (by omega)
              obtain ⟨y2, x2⟩ := HR4.out.c 2 (by omega)
              obtain ⟨y3, x3⟩ := HR4.out.c 3 (by omega)
              obtain ⟨y4, x4⟩ := HR4.out.c 4 (by omega)
              obtain ⟨y5, x5⟩ := HR4.out.c 5 (by omega)
              have xf := HR4.out.f
              have xl := HR4.out.lt
              unfold NV.val
              dsimp only
              rcases HLQ.out with rfl | rfl | rfl
              · have HD := Lib.hid (cn_done (w := w) (V := (NV.mk k' A' na' ca' B' nb' cb' S' ns' cs' P' np' cp' Q' nq' cq')) HR4.out hO (by omega) (by omega) (by omega) E4 tz 0)
                clear hO
                (try unfold tz)
                (try unfold tT)
                (try unfold tJ)
                go_wp2
                refine bodyPost_ret (v := .tuple #[(NV.mk k' A' na' ca' B' nb' cb' S' ns' cs' P' np' cp' Q' nq' cq').val, .string tz, .int .i64 0]) ?_ ?_ ?_
                · exact results_not3 Tryz.results7 rfl (HD.out.1.ext ((Ext.refl _).alloc (.cells #[.int .i64 k', .slice A' na' ca', .slice B' nb' cb', .slice S' ns' cs', .slice P' np' cp', .slice Q' nq' cq'] 33)))
                · rfl
                · rw [HF3.out]
                  exact (HD.out.2.ext ((Ext.refl _).alloc (.cells #[.int .i64 k', .slice A' na' ca', .slice B' nb' cb', .slice S' ns' cs', .slice P' np' cp', .slice Q' nq' cq'] 33)))
              · have HD := Lib.hid (cn_done (w := w) (V := (NV.mk k' A' na' ca' B' nb' cb' S' ns' cs' P' np' cp' Q' nq' cq')) HR4.out hO (by omega) (by omega) (by omega) E4 tT 0)
                clear hO
                (try unfold tz)
                (try unfold tT)
                (try unfold tJ)
                go_wp2
                refine bodyPost_ret (v := .tuple #[(NV.mk k' A' na' ca' B' nb' cb' S' ns' cs' P' np' cp' Q' nq' cq').val, .string tT, .int .i64 0]) ?_ ?_ ?_
                · exact results_not3 Tryz.results7 rfl (HD.out.1.ext ((Ext.refl _).alloc (.cells #[.int .i64 k', .slice A' na' ca', .slice B' nb' cb', .slice S' ns' cs', .slice P' np' cp', .slice Q' nq' cq'] 33)))
                · rfl
                · rw [HF3.out]
                  exact (HD.out.2.ext ((Ext.refl _).alloc (.cells #[.int .i64 k', .slice A' na' ca', .slice B' nb' cb', .slice S' ns' cs', .slice P' np' cp', .slice Q' nq' cq'] 33)))
              · have HD := Lib.hid (cn_done (w := w) (V := (NV.mk k' A' na' ca' B' nb' cb' S' ns' cs' P' np' cp' Q' nq' cq')) HR4.out hO (by omega) (by omega) (by omega) E4 tJ 0)
                clear hO
                (try unfold tz)
                (try unfold tT)
                (try unfold tJ)
                go_wp2
                refine bodyPost_ret (v := .tuple #[(NV.mk k' A' na' ca' B' nb' cb' S' ns' cs' P' np' cp' Q' nq' cq').val, .string tJ, .int .i64 0]) ?_ ?_ ?_
                · exact results_not3 Tryz.results7 rfl (HD.out.1.ext ((Ext.refl _).alloc (.cells #[.int .i64 k', .slice A' na' ca', .slice B' nb' cb', .slice S' ns' cs', .slice P' np' cp', .slice Q' nq' cq'] 33)))
                · rfl
                · rw [HF3.out]
                  exact (HD.out.2.ext ((Ext.refl _).alloc (.cells #[.int .i64 k', .slice A' na' ca', .slice B' nb' cb', .slice S' ns' cs', .slice P' np' cp', .slice Q' nq' cq'] 33)))
            · have HF4 : Hid (r = (NDz, tz, 5)) := by show _ = _; rw [HF2.out]; unfold cnk; exact (if_neg (by decide)).trans ((if_neg (by decide)).trans ((if_neg (by decide)).trans (if_neg (by omega))))
              go_wp2_with fail
              (with_reducible refine (from4z A1 n c1 p _ HIp.out hvp (by omega)).mono ?_)
              rintro e w4 ⟨⟨k', A', na', ca', B', nb', cb', S', ns', cs', P', np', cp', Q', nq', cq'⟩, rfl, hO, hx4⟩
              have E4 := E2.trans hx4
              have HV4 := Lib.hid (HV2.out.ext hx4)
              have HR4 := Lib.hid (HR2.out.ext hx4)
              clear b0 b1 b2 b3 b4 b5 x0 x1 x2 x3 x4 x5 xf xl
              obtain ⟨l0, b0, b1, b2, b3, b4, b5⟩ := HV4.out
              dsimp only at b0 b1 b2 b3 b4 b5
              obtain ⟨y0, x0⟩ := HR4.out.c 0 (by omega)
              obtain ⟨y1, x1⟩ := HR4.out.c 1 (by omega)
              obtain ⟨y2, x2⟩ := HR4.out.c 2 (by omega)
              obtain ⟨y3, x3⟩ := HR4.out.c 3 (by omega)
              obtain ⟨y4, x4⟩ := HR4.out.c 4 (by omega)
              obtain ⟨y5, x5⟩ := HR4.out.c 5 (by omega)
              have xf := HR4.out.f
              have xl := HR4.out.lt
              have HD := Lib.hid (cn_done (w := w) HR4.out (NtO.none w4 (Nat.le_refl w4.heap.size)) (by omega) (by omega) (Nat.le_refl _) E4 tz 5)
              unfold NV.val
              dsimp only
              go_wp2
              refine bodyPost_ret (v := .tuple #[NVz.val, .string tz, .int .i64 5]) ?_ ?_ ?_
              · exact results_not3 Tryz.results7 rfl (HD.out.1.ext ((Ext.refl _).alloc (.cells #[.int .i64 k', .slice A' na' ca', .slice B' nb' cb', .slice S' ns' cs', .slice P' np' cp', .slice Q' nq' cq'] 33)))
              · rfl
              · rw [HF4.out]
                exact (HD.out.2.ext ((Ext.refl _).alloc (.cells #[.int .i64 k', .slice A' na' ca', .slice B' nb' cb', .slice S' ns' cs', .slice P' np' cp', .slice Q' nq' cq'] 33)))
        · dsimp only at hc ⊢
          have HF2 : Hid (r = (NDz, tz, c)) := by show _ = _; rw [HF.out]; exact if_neg hc
          have E2 := E1.trans hx2
          have hz2 := hx2.size
          have HV2 := Lib.hid (HV1.out.ext hx2)
          have HR2 := Lib.hid (HR1.out.ext hx2)
          clear b0 b1 b2 b3 b4 b5 x0 x1 x2 x3 x4 x5 xf xl
          obtain ⟨l0, b0, b1, b2, b3, b4, b5⟩ := HV2.out
          dsimp only at b0 b1 b2 b3 b4 b5
          obtain ⟨y0, x0⟩ := HR2.out.c 0 (by omega)
          obtain ⟨y1, x1⟩ := HR2.out.c 1 (by omega)
          obtain ⟨y2, x2⟩ := HR2.out.c 2 (by omega)
          obtain ⟨y3, x3⟩ := HR2.out.c 3 (by omega)
          obtain ⟨y4, x4⟩ := HR2.out.c 4 (by omega)
          obtain ⟨y5, x5⟩ := HR2.out.c 5 (by omega)
          have xf := HR2.out.f
          have xl := HR2.out.lt
          have HD := Lib.hid (cn_done (w := w) HR2.out (NtO.none w2 (Nat.le_refl w2.heap.size)) (by omega) (by omega) (Nat.le_refl _) E2 tz c)
          go_wp2
          refine bodyPost_ret (v := .tuple #[NVz.val, .string tz, .int .i64 c]) ?_ ?_ ?_
          · exact results_not3 Tryz.results7 rfl HD.out.1
          · rfl
          · rw [HF2.out]
            exact HD.out.2
end Go.Proofs.YtbihbhdaenhdoaaGreat

namespace Go.Proofs.YtbihbhdaenhdoaaGreat
set_option linter.unusedVariables false
set_option linter.unusedSimpArgs false
open Go.ChangeShapes Go.WideShapes Go.ChangeAt Go.RowKit Go.Joins Go.Deep

theorem NDz_ok : NDz.Sm ∧ NDz.Bd := ⟨⟨by decide, by decide, fun i hi => absurd hi (by simp [NDz]), by decide, by decide, by decide⟩, ⟨by simp [NDz], fun i hi => absurd hi (by simp [NDz])⟩⟩
theorem ll_wrp {p : List Int} {i : Nat} (h : i < (wrp p).length) : ll (wrp p) i = [p[i]?.getD 0] := by
  have hi : i < p.length := by rwa [wrp_len] at h
  unfold ll wrp
  rw [List.getElem?_map, List.getElem?_eq_getElem hi]
  rfl
theorem pup_len (p : List Int) : (pup p).1.length ≤ 1000 := by
  unfold pup
  split
  · simp
  · split
    · rw [tbk_len]; omega
    · simp
theorem cnk_ok {p : List Int} (hp : vpat p = true) (l : ByteArray) (q : Int) : (cnk p l q).1.Sm ∧ (cnk p l q).1.Bd := by
  have hl := vpat_len hp
  have hb := vpat_bd hp
  unfold cnk
  split
  · exact ⟨⟨by dsimp only; omega, by simp, fun i hi => absurd hi (by simp), by simp, by simp, by simp⟩, ⟨hb, fun i hi => absurd hi (by simp)⟩⟩
  · split
    · refine ⟨⟨by simp, by dsimp only; rw [wrp_len]; omega, fun i hi => ?_, by simp, by simp, by simp⟩, ⟨by simp, fun i hi => ?_⟩⟩
      · dsimp only at hi ⊢
        rw [ll_wrp hi]; simp
      · dsimp only at hi ⊢
        rw [ll_wrp hi]
        refine ⟨by simp, fun y hy => ?_⟩
        simp at hy
        subst hy
        have hi' : i < p.length := by rwa [wrp_len] at hi
        rw [List.getElem?_eq_getElem hi']
        exact hb _ (List.getElem_mem hi')
    · split
      · split
        · have := pup_len p
          exact ⟨⟨by simp, by simp, fun i hi => absurd hi (by simp), by dsimp only; omega, by simp, by simp⟩, ⟨by simp, fun i hi => absurd hi (by simp)⟩⟩
        · exact NDz_ok
      · split
        · exact ⟨⟨by simp, by simp, fun i hi => absurd hi (by simp), by simp, by dsimp only; rw [sf_len]; omega, by dsimp only; rw [sf_len]; omega⟩, ⟨by simp, fun i hi => absurd hi (by simp)⟩⟩
        · exact NDz_ok
theorem cnv_ok {D : ND} (hs : D.Sm) (hb : D.Bd) (he : D.s.length = 2 * (D.s.length / 2)) (q : Int) : (cnv D q).1.Sm ∧ (cnv D q).1.Bd := by
  unfold cnv
  split
  · split
    · split
      · exact ⟨hs, hb⟩
      · split
        · exact cnk_ok (sgle_vpat (by assumption) he (by assumption)) _ _
        · exact NDz_ok
    · exact NDz_ok
  · exact NDz_ok
theorem mkD_bd {k : Int} {D : ND} (hs : D.Sm) (hk : 0 ≤ k ∧ k ≤ 1000) : (mkD k D).Sm ∧ (mkD k D).Bd ∧ 0 ≤ mkE k D ∧ mkE k D ≤ 4000000000000 := by
  obtain ⟨s0, s1, s2, s3, s4, s5⟩ := hs
  have hsb := sml_lt (f := fun i => (ll D.m i).length) (n := D.m.length) (fun i hi => s2 i hi) s1 (Nat.le_refl _)
  refine ⟨⟨by unfold mkD; dsimp only; rw [marks_len]; exact s0, by unfold mkD; dsimp only; rw [mkL_len]; exact s1, fun i hi => ?_, by unfold mkD; dsimp only; rw [mkT_len]; exact s3, by unfold mkD; dsimp only; rw [mkT_len]; exact s4, by unfold mkD; dsimp only; rw [mkT_len]; exact s5⟩, ⟨?_, ?_⟩, ?_, ?_⟩
  · unfold mkD at hi ⊢
    dsimp only at hi ⊢
    rw [mkL_len] at hi
    rw [mkL_ll hi, marks_len]
    exact s2 i hi
  · unfold mkD; dsimp only; exact marks_bd (by omega) (by omega)
  · unfold mkD; dsimp only; exact mkL_bd (by omega) s1 (fun i hi => s2 i hi)
  · unfold mkE; omega
  · unfold mkE; omega
theorem NtR.bd {w : World} {V : NV} {D : ND} (h : NtR w V D) (hs : D.Sm) : D.Bd := by
  refine ⟨h.p.bds, fun i hi => ⟨hs.l i hi, ?_⟩⟩
  have hl := h.m.len
  obtain ⟨b, off, _, _, hc⟩ := h.m.at_ (by omega)
  obtain ⟨B, m, c, _, hI⟩ := hc i (by omega)
  exact hI.bds
theorem NBox.newT (w : World) (V : NV) (t : TypeId) : NBox (w.alloc (.cells #[.int .i64 V.k, .slice V.A V.na V.ca, .slice V.B V.nb V.cb, .slice V.S V.ns V.cs, .slice V.P V.np V.cp, .slice V.Q V.nq V.cq] t)) w.heap.size V :=
  ⟨by simp, by go_simp, by go_simp, by go_simp, by go_simp, by go_simp, by go_simp⟩
theorem NBox.held {w w' : World} {g lo hi : Nat} {V : NV} (h : NBox w g V) (k : Kept lo hi w w') (hr : g < lo ∨ hi ≤ g) : NBox w' g V :=
  h.move k.size (fun o => World.cell?_of_block (k.block g h.lt hr))
end Go.Proofs.YtbihbhdaenhdoaaGreat

namespace Go.Proofs.YtbihbhdaenhdoaaGreat
set_option linter.unusedVariables false
set_option linter.unusedSimpArgs false
open Go.ChangeShapes Go.WideShapes Go.ChangeAt Go.RowKit Go.Joins Go.Deep

theorem NtO.even {w : World} {lo hi : Nat} {V : NV} {D : ND} (h : NtO w lo hi V D) : D.s.length % 2 = 0 := by
  obtain ⟨_, _, _, _, _, _, _, _, _, _, _, r2, _⟩ := h.own
  have := r2.len
  omega
theorem NtR.pq {w : World} {V : NV} {D : ND} (h : NtR w V D) (hs : D.Sm) : V.np ≤ 1048576 ∧ V.nq ≤ 1048576 := by
  have h1 := h.a.len
  have h2 := h.b.len
  have h3 := hs.a
  have h4 := hs.b
  omega
end Go.Proofs.YtbihbhdaenhdoaaGreat

namespace Go.Proofs.YtbihbhdaenhdoaaGreat
set_option linter.unusedVariables false
set_option linter.unusedSimpArgs false
open Go.ChangeShapes Go.WideShapes Go.ChangeAt Go.RowKit Go.Joins Go.Deep

section
variable {H : Type} {enc : TypeId × Value → H} {P : Program} {w : World} {base : Nat} {spare : Nat → Bool} {held : Bool}
theorem ints_of_trod {t e : TypeId} {fuel : Nat} {v : Value} {x : DataW H × List MemPlace} (ht : P.underlying t = some (.slice e)) (he : P.underlying e = some (.int .i64)) (hc : P.cellsOf e = 1)
    (hs : ∀ b, spare b = true) (h : DataW.trod enc P w base spare held fuel t [v] = some x) : ∃ B m c xs, v = .slice B m c ∧ Ints w B m xs := by
  rcases open_ints ht he hc h with ⟨hcs, hx⟩ | ⟨a, len, cap, zs, hcs, _, hl, hm, hz, hx, hcell, hwz⟩
  · obtain rfl : v = .slice none 0 0 := by simpa using hcs
    exact ⟨none, 0, 0, [], rfl, Ints.nil _ _⟩
  · obtain rfl : v = .slice (some a) len cap := by simpa using hcs
    rw [hs a.block] at hz
    simp only [if_true] at hz
    unfold maxLen at hm
    refine ⟨some a, len, cap, zs.take len, rfl, by simp; omega, by omega, fun x hx => bounds_i64 (hwz x (List.mem_of_mem_take hx)), fun hn => ?_⟩
    obtain ⟨b, off, rfl, hcc⟩ := ints_at hcell (by omega)
    refine ⟨b, off, rfl, cell_lt (hcc 0 (by omega)), fun i hi => ?_⟩
    rw [hcc i (by omega)]
    simp [hi]
/-- An argument's reading: a slice of slices of numbers. -/
theorem lists_of_trod {t e te : TypeId} {fuel : Nat} {v : Value} {x : DataW H × List MemPlace} (ht : P.underlying t = some (.slice e)) (he : P.underlying e = some (.slice te)) (hte : P.underlying te = some (.int .i64)) (hce : P.cellsOf te = 1) (hC : P.cellsOf e = 1)
    (hs : ∀ b, spare b = true) (h : DataW.trod enc P w base spare held fuel t [v] = some x) : ∃ A n c L, v = .slice A n c ∧ Lists w A n L := by
  rcases open_slice ht h with ⟨hcs, hx⟩ | ⟨a, len, cap, m, n, D, Pl, hcs, hb, hl, hm, hmm, hx, hi⟩
  · obtain rfl : v = .slice none 0 0 := by simpa using hcs
    exact ⟨none, 0, 0, [], rfl, ⟨rfl, by omega, fun hn => absurd hn (by omega)⟩⟩
  · obtain rfl : v = .slice (some a) len cap := by simpa using hcs
    rw [hs a.block] at hmm
    simp only [if_true] at hmm
    subst hmm
    unfold maxLen at hm
    have key : ∀ i, i < len → ∃ q : List Int, ∃ (B : Option Addr) (m c : Nat), w.cell? (a.add i) = some (.slice B m c) ∧ Ints w B m q := by
      intro i hil
      obtain ⟨cs', hc, ht'⟩ := hi i (by omega)
      rw [hC] at hc
      obtain ⟨_, hcl, hat⟩ := World.cells?_some hc
      match cs', hcl with
      | [u0], _ =>
        obtain ⟨B, mm, c, zs, rfl, hz⟩ := ints_of_trod (v := u0) he hte hce hs ht'
        have c0 := hat 0 (by omega)
        rw [Go.Deep.add_add] at c0
        exact ⟨zs, B, mm, c, by simpa using c0, hz⟩
    obtain ⟨f, hf⟩ := Go.Deep.choose_lt (α := List Int) key
    refine ⟨some a, len, _, (List.range len).map f, rfl, by simp, by omega, fun hn => ?_⟩
    · obtain ⟨b, off, spot⟩ := a
      have hspot : spot = none := by
        obtain ⟨B, m, c, e1, _⟩ := hf 0 hn
        simpa [Addr.add] using World.cell?_spot e1
      subst hspot
      have hlt : b < w.heap.size := by
        obtain ⟨B, m, c, e1, _⟩ := hf 0 hn
        rw [addr_add] at e1
        exact cell_lt e1
      refine ⟨b, off, rfl, hlt, fun i hi => ?_⟩
      obtain ⟨B, m, c, e1, e3⟩ := hf i hi
      rw [addr_add] at e1
      refine ⟨B, m, c, e1, ?_⟩
      unfold ll
      simpa [hi] using e3
theorem array6 {α : Type} {xs : Array α} (h : xs.size = 6) : ∃ a b c d e f, xs = #[a, b, c, d, e, f] := by
  obtain ⟨l⟩ := xs
  match l, h with
  | [a, b, c, d, e, f], _ => exact ⟨a, b, c, d, e, f, rfl⟩
end
end Go.Proofs.YtbihbhdaenhdoaaGreat

namespace Go.Proofs.YtbihbhdaenhdoaaGreat
set_option linter.unusedVariables false
set_option linter.unusedSimpArgs false
open Go.ChangeShapes Go.WideShapes Go.ChangeAt Go.RowKit Go.Joins Go.Deep

theorem qs_len (p : List Int) : (qs p).length = if p.length % 2 = 1 then 2 * p.length else p.length := by
  unfold qs
  split
  · rw [List.length_append]; omega
  · rfl
theorem qs_qs (p : List Int) : qs (qs p) = qs p := by
  have h := qs_even p
  generalize qs p = y at *
  unfold qs
  rw [if_neg (by omega)]
theorem pup_ok {p : List Int} (h : (pup p).2 = 0) : (qs p).length ≤ 12 ∧ BkK (qs p) (qs p).length ∧ (pup p).1 = tbk (qs p) (qs p).length := by
  unfold pup at h ⊢
  split at h
  · cases h
  · split at h
    · rw [if_neg (by assumption), if_pos (by assumption)]
      exact ⟨by omega, by assumption, rfl⟩
    · cases h
theorem pup_qs {p : List Int} : pup (qs p) = pup p := by
  unfold pup
  rw [qs_qs]
theorem sdv_bkv {v : Int} {k : Nat} : sdv (bkv v k) (bkp v) k = v := by
  unfold sdv bkv bkp
  by_cases h : v % 2 = 1
  · rcases Nat.mod_two_eq_zero_or_one k with hk | hk <;> simp [h, hk]
  · simp [h]
theorem bkv_sdv {v : Int} {p : Bool} {k : Nat} (hv : v % 2 = 0) : bkv (sdv v p k) k = v ∧ bkp (sdv v p k) = p := by
  unfold sdv bkv bkp
  cases p
  · simp [hv]
  · rcases Nat.mod_two_eq_zero_or_one k with hk | hk
    · have h1 : (v + 1) % 2 = 1 := by omega
      simp [hk, h1]
    · have h1 : (v - 1) % 2 = 1 := by omega
      simp [hk, h1]
theorem int_ext {xs ys : List Int} (hl : xs.length = ys.length) (h : ∀ i, i < xs.length → xs[i]?.getD 0 = ys[i]?.getD 0) : xs = ys := by
  apply List.ext_getElem hl
  intro i h1 h2
  have := h i h1
  rw [List.getElem?_eq_getElem h1, List.getElem?_eq_getElem h2] at this
  simpa using this
/-- Paired up and slid. -/
theorem sld_pup {p : List Int} (h : (pup p).2 = 0) : sld (pup p).1 (pup p).1.length = qs p := by
  obtain ⟨_, _, e⟩ := pup_ok h
  rw [e, tbk_len]
  refine int_ext (by rw [sld_len]) (fun i hi => ?_)
  rw [sld_len] at hi
  rw [sld_get hi, (tbk_get hi).1, (tbk_get hi).2, sdv_bkv]
theorem sok_even {v : Int} {p : Bool} (h : sok v p = true) : v % 2 = 0 := by
  unfold sok at h
  simp only [Bool.and_eq_true, decide_eq_true_iff] at h
  exact h.1.2
/-- Slid and paired up. -/
theorem pup_sld {ts : List (Int × Bool)} {n : Nat} (hl : ts.length = 2 * n) (h : vsyn ts = true) : pup (sld ts (2 * n)) = (ts, 0) := by
  unfold vsyn at h
  rw [Bool.and_eq_true] at h
  obtain ⟨n1, n6, hs⟩ := slis_iff hl h.1
  have hq : qs (sld ts (2 * n)) = sld ts (2 * n) := by
    unfold qs
    rw [sld_len, if_neg (by omega)]
  have hB : ∀ i, i < 2 * n → bkv ((sld ts (2 * n))[i]?.getD 0) i = tv ts i ∧ bkp ((sld ts (2 * n))[i]?.getD 0) = tp ts i := fun i hi => by
    rw [sld_get hi]
    exact bkv_sdv (sok_even (hs i hi))
  have hK : BkK (sld ts (2 * n)) (2 * n) := fun i hi => by rw [(hB i hi).1, (hB i hi).2]; exact hs i hi
  unfold pup
  rw [hq, sld_len, if_neg (by omega), if_pos hK]
  refine congrArg (·, 0) (thr_ext (by rw [tbk_len, hl]) (fun i hi => ?_))
  rw [tbk_len] at hi
  rw [(tbk_get hi).1, (tbk_get hi).2]
  exact hB i hi
theorem sgl_wrp (p : List Int) : sgl (wrp p) p.length = p := by
  refine int_ext (by rw [sgl_len]) (fun i hi => ?_)
  rw [sgl_len] at hi
  rw [sgl_get hi]
  simp [ll, wrp, hi]
theorem one_wrp (p : List Int) : One (wrp p) p.length := fun i hi => by simp [ll, wrp, hi]
theorem vls_sf (p : List Int) : vls (sf p) p.length = p := by
  refine int_ext (by rw [vls_len]) (fun i hi => ?_)
  rw [vls_len] at hi
  rw [vls_get hi]
  simp [tv, sf, hi]
theorem nop_sf (p : List Int) : NoP (sf p) p.length := fun i hi => by simp [tp, sf, hi]
theorem vpat_ncl {xs : List Int} (h : vpat xs = true) : thr xs = true ∧ ∀ i j, i < xs.length → j < xs.length → lnd xs i = lnd xs j → i = j := by
  unfold vpat ncl at h
  rw [Bool.and_eq_true, decide_eq_true_iff] at h
  refine ⟨h.1, fun i j hi hj e => ?_⟩
  rcases Nat.lt_trichotomy i j with hl | hl | hl
  · exact absurd e (h.2 j hj i hl)
  · exact hl
  · exact absurd e.symm (h.2 i hi j hl)
theorem vpat_of {xs : List Int} (h0 : thr xs = true) (h : ∀ i j, i < j → j < xs.length → lnd xs i ≠ lnd xs j) : vpat xs = true := by
  unfold vpat
  rw [Bool.and_eq_true]
  exact ⟨h0, ncl_yes (fun j hj i hi => h i j hi hj)⟩
theorem twice_get {p : List Int} {i : Nat} (h : i < 2 * p.length) : (p ++ p)[i]?.getD 0 = p[i % p.length]?.getD 0 := by
  by_cases hi : i < p.length
  · rw [List.getElem?_append_left hi, Nat.mod_eq_of_lt hi]
  · rw [List.getElem?_append_right (by omega), Nat.mod_eq_sub_mod (by omega), Nat.mod_eq_of_lt (by omega)]
theorem vpat_qs {p : List Int} (h : vpat p = true) (hl : (qs p).length ≤ 12) : vpat (qs p) = true := by
  by_cases ho : p.length % 2 = 1
  · have hq : qs p = p ++ p := by unfold qs; rw [if_pos ho]
    rw [hq] at hl ⊢
    rw [List.length_append] at hl
    obtain ⟨ht, hn⟩ := vpat_ncl h
    rw [thr_iff] at ht
    obtain ⟨hv, n1, n12⟩ := ht
    have hm : ∀ i, i % p.length < p.length := fun i => Nat.mod_lt _ (by omega)
    have hL : ∀ i, i < 2 * p.length → lnd (p ++ p) i % (p.length : Int) = lnd p (i % p.length) := fun i hi => by
      unfold lnd
      rw [twice_get hi, List.length_append, Int.emod_emod_of_dvd _ ⟨2, by omega⟩, Int.natCast_emod, Int.emod_add_emod]
    refine vpat_of (thr_iff.2 ⟨fun i hi => ?_, by rw [List.length_append]; omega, by rw [List.length_append]; omega⟩) (fun i j hij hj e => ?_)
    · rw [List.length_append] at hi
      rw [twice_get (by omega)]
      exact hv _ (hm i)
    · rw [List.length_append] at hj
      have e1 := hn _ _ (hm i) (hm j) (by rw [← hL i (by omega), ← hL j (by omega), e])
      have e2 : j = i + p.length := by
        have b1 : i / p.length < 2 := (Nat.div_lt_iff_lt_mul (by omega)).2 (by omega)
        have b2 : j / p.length < 2 := (Nat.div_lt_iff_lt_mul (by omega)).2 (by omega)
        have a1 := Nat.div_add_mod i p.length
        have a2 := Nat.div_add_mod j p.length
        have c1 : i / p.length = 0 ∨ i / p.length = 1 := by clear a1 a2; revert b1; generalize i / p.length = x; omega
        have c2 : j / p.length = 0 ∨ j / p.length = 1 := by clear a1 a2; revert b2; generalize j / p.length = x; omega
        rcases c1 with c1 | c1 <;> rcases c2 with c2 | c2 <;> rw [c1] at a1 <;> rw [c2] at a2 <;> omega
      unfold lnd at e
      rw [twice_get (by omega), twice_get (by omega), ← e1, List.length_append, Int.emod_eq_emod_iff_emod_sub_eq_zero] at e
      have e3 := Int.dvd_of_emod_eq_zero e
      have e4 : (i : Int) + p[i % p.length]?.getD 0 - ((j : Int) + p[i % p.length]?.getD 0) = -(p.length : Int) := by rw [e2]; omega
      rw [e4, Int.dvd_neg] at e3
      have := Int.le_of_dvd (by omega) e3
      omega
  · have hq : qs p = p := by unfold qs; rw [if_neg ho]
    rw [hq]
    exact h
/-- A pattern that is paired up is a synchronous pattern. -/
theorem vsyn_pup {p : List Int} (h : vpat p = true) (h0 : (pup p).2 = 0) : vsyn (pup p).1 = true := by
  obtain ⟨hl, hB, e⟩ := pup_ok h0
  have hs := sld_pup h0
  have hv := vpat_qs h hl
  have he := qs_even p
  rw [e] at hs ⊢
  rw [tbk_len] at hs
  generalize qs p = ys at *
  obtain ⟨n, hn⟩ : ∃ n, ys.length = 2 * n := ⟨ys.length / 2, by omega⟩
  obtain ⟨ht, hc⟩ := vpat_ncl hv
  rw [thr_iff] at ht
  have hB' : ∀ i, i < 2 * n → sok (tv (tbk ys (2 * n)) i) (tp (tbk ys (2 * n)) i) = true := fun i hi => by
    rw [(tbk_get hi).1, (tbk_get hi).2]
    exact hB i (by omega)
  rw [hn] at hs ⊢
  unfold vsyn slis alls scl
  rw [tbk_len, Bool.and_eq_true, Bool.and_eq_true, decide_eq_true_iff, decide_eq_true_iff, btw_iff]
  refine ⟨⟨hB', by omega, by omega⟩, fun j hj i hi ee => ?_⟩
  rw [show 2 * n / 2 = n by omega] at ee
  have a1 := sld_lnd (n := n) (i := i) (by omega) (hB' i (by omega))
  have a2 := sld_lnd (n := n) (i := j) hj (hB' j hj)
  rw [hs] at a1 a2
  have := hc i j (by omega) (by omega) (by rw [a1, a2, ee])
  omega
theorem perm_inj : ∀ (L M : List Nat), L.Nodup → (∀ x ∈ L, x ∈ M) → M.length ≤ L.length → L.Perm M
  | [], M, _, _, h => by
    have : M = [] := List.eq_nil_of_length_eq_zero (by simpa using h)
    subst this
    exact List.Perm.nil
  | a :: L, M, hn, hs, hl => by
    have ha : a ∈ M := hs a (by simp)
    have hp := List.perm_cons_erase ha
    rw [List.nodup_cons] at hn
    have ih := perm_inj L (M.erase a) hn.2 (fun x hx => by
      have : x ≠ a := by rintro rfl; exact hn.1 hx
      exact (List.mem_erase_of_ne this).2 (hs x (by simp [hx]))) (by
      have := List.length_erase_of_mem ha
      simp at hl
      omega)
    exact (List.Perm.cons a ih).trans hp.symm
/-- A map of numbers below n that meets none twice meets all. -/
theorem perm_map {n : Nat} {f : Nat → Nat} (hf : ∀ i, i < n → f i < n) (hi : ∀ i j, i < n → j < n → f i = f j → i = j) : ((List.range n).map f).Perm (List.range n) := by
  refine perm_inj _ _ ?_ (fun x hx => ?_) (by simp)
  · refine List.pairwise_iff_getElem.2 (fun i j h1 h2 hij e => ?_)
    simp only [List.length_map, List.length_range] at h1 h2
    simp only [List.getElem_map, List.getElem_range] at e
    have := hi i j h1 h2 e
    omega
  · simp only [List.mem_map, List.mem_range] at hx ⊢
    obtain ⟨i, h1, rfl⟩ := hx
    exact hf i h1
theorem onto {n : Nat} {f : Nat → Nat} (hf : ∀ i, i < n → f i < n) (hi : ∀ i j, i < n → j < n → f i = f j → i = j) {j : Nat} (hj : j < n) : ∃ i, i < n ∧ f i = j := by
  have := ((perm_map hf hi).mem_iff (a := j)).2 (List.mem_range.2 hj)
  simpa using this
/-- Where the throws of a pattern land. -/
def fl (p : List Int) (i : Nat) : Nat := (i + (p[i]?.getD 0).toNat) % p.length
theorem fl_lnd {p : List Int} {i : Nat} (h : 0 ≤ p[i]?.getD 0) : lnd p i = (fl p i : Int) := by
  unfold lnd fl
  rw [Int.natCast_emod]
  generalize p[i]?.getD 0 = x at h ⊢
  rw [show ((i + x.toNat : Nat) : Int) = (i : Int) + x by omega]
theorem vpat_fl {p : List Int} (h : vpat p = true) : (∀ i, i < p.length → fl p i < p.length) ∧ (∀ i j, i < p.length → j < p.length → fl p i = fl p j → i = j) := by
  obtain ⟨ht, hn⟩ := vpat_ncl h
  rw [thr_iff] at ht
  refine ⟨fun i hi => Nat.mod_lt _ (by omega), fun i j hi hj e => hn i j hi hj ?_⟩
  rw [fl_lnd (ht.1 i hi).1, fl_lnd (ht.1 j hj).1, e]
/-- The throws of a pattern, thrown by both jugglers for themselves, are a passing pattern. -/
theorem vpas_sf {p : List Int} (h : vpat p = true) (hl : p.length ≤ 8) : vpas (sf p) (sf p) = true := by
  obtain ⟨ht, _⟩ := vpat_ncl h
  obtain ⟨hf, hi⟩ := vpat_fl h
  rw [thr_iff] at ht
  obtain ⟨hv, n1, n12⟩ := ht
  have hg : ∀ i, i < p.length → tv (sf p) i = p[i]?.getD 0 ∧ tp (sf p) i = false := fun i hi => by simp [tv, tp, sf, hi]
  have hlj : ∀ (b : Bool) i, i < p.length → lj b p.length (sf p) i = fl p i * 2 + (if (false == b) then 1 else 0) := fun b i hi => by
    unfold lj fl
    rw [(hg i hi).1, (hg i hi).2]
  have hA : allp (sf p) = true := by
    unfold allp
    rw [decide_eq_true_iff, sf_len]
    intro i hi
    rw [(hg i hi).1, (hg i hi).2]
    unfold pok
    rw [Bool.and_eq_true, btw_iff]
    exact ⟨hv i hi, by simp⟩
  have hN : ∀ b, (ljs b p.length (sf p) p.length).Nodup := fun b => by
    refine List.pairwise_iff_getElem.2 (fun i j h1 h2 hij e => ?_)
    simp only [ljs, List.length_map, List.length_range] at h1 h2
    simp only [ljs, List.getElem_map, List.getElem_range] at e
    rw [hlj b i h1, hlj b j h2] at e
    have := hi i j h1 h2 (by omega)
    omega
  unfold vpas fpas
  rw [hA, sf_len, Bool.and_eq_true, decide_eq_true_iff]
  refine ⟨by simp [btw_iff]; omega, List.nodup_append.2 ⟨hN _, hN _, fun x hx y hy e => ?_⟩⟩
  simp only [ljs, List.mem_map, List.mem_range] at hx hy
  obtain ⟨i, hi1, rfl⟩ := hx
  obtain ⟨j, hj1, rfl⟩ := hy
  rw [hlj _ i hi1, hlj _ j hj1] at e
  simp at e
  omega
theorem ll_wrq {p : List Int} {i : Nat} (h : i < p.length) : ll (wrp p) i = [p[i]?.getD 0] := by simp [ll, wrp, h]
/-- How often something lands at j among the first k throws of beats of one throw. -/
theorem cnt_wrp {p : List Int} {j : Nat} (hv : ∀ i, i < p.length → 0 ≤ p[i]?.getD 0) (hi : ∀ i j, i < p.length → j < p.length → fl p i = fl p j → i = j) : ∀ k, k ≤ p.length →
    (ldL (wrp p) k).count j = if ∃ i, i < k ∧ 0 < p[i]?.getD 0 ∧ fl p i = j then 1 else 0
  | 0, _ => by
    rw [if_neg (by rintro ⟨i, h, _⟩; omega)]
    rfl
  | k + 1, hk => by
    have hlk := ll_wrq (p := p) (i := k) (by omega)
    rw [ldL_one (by rw [hlk]; rfl), List.count_append, cnt_wrp hv hi k (by omega), hlk, wrp_len]
    simp only [List.getElem?_cons_zero, Option.getD_some]
    by_cases h0 : (0 : Int) < p[k]?.getD 0
    · rw [if_pos h0]
      by_cases hj : fl p k = j
      · rw [if_neg, if_pos ⟨k, by omega, h0, hj⟩]
        · unfold fl at hj
          rw [hj]
          simp
        · rintro ⟨i, h1, _, h3⟩
          have := hi i k (by omega) (by omega) (by rw [h3, hj])
          omega
      · have e : (∃ i, i < k + 1 ∧ 0 < p[i]?.getD 0 ∧ fl p i = j) ↔ ∃ i, i < k ∧ 0 < p[i]?.getD 0 ∧ fl p i = j := by
          refine ⟨fun ⟨i, h1, h2, h3⟩ => ⟨i, ?_, h2, h3⟩, fun ⟨i, h1, h2, h3⟩ => ⟨i, by omega, h2, h3⟩⟩
          have : i ≠ k := by rintro rfl; exact hj h3
          omega
        have e2 : List.count j [(k + (p[k]?.getD 0).toNat) % p.length] = 0 := by
          unfold fl at hj
          simp [hj]
        rw [e2]
        simp only [e, Nat.add_zero]
    · rw [if_neg h0]
      have e : (∃ i, i < k + 1 ∧ 0 < p[i]?.getD 0 ∧ fl p i = j) ↔ ∃ i, i < k ∧ 0 < p[i]?.getD 0 ∧ fl p i = j := by
        refine ⟨fun ⟨i, h1, h2, h3⟩ => ⟨i, ?_, h2, h3⟩, fun ⟨i, h1, h2, h3⟩ => ⟨i, by omega, h2, h3⟩⟩
        have : i ≠ k := by rintro rfl; exact h0 h2
        omega
      simp only [e]
      rfl
/-- The throws of a pattern, each alone at its beat, are a multiplex pattern. -/
theorem vmul_wrp {p : List Int} (h : vpat p = true) : vmul (wrp p) = true := by
  obtain ⟨ht, _⟩ := vpat_ncl h
  obtain ⟨hf, hi⟩ := vpat_fl h
  rw [thr_iff] at ht
  obtain ⟨hv, n1, n12⟩ := ht
  unfold vmul stks
  rw [Bool.and_eq_true, Bool.and_eq_true, decide_eq_true_iff, decide_eq_true_iff, btw_iff, wrp_len]
  refine ⟨⟨fun i hl => ?_, by omega, by omega⟩, fun j hj => ?_⟩
  · rw [ll_wrq hl]
    unfold stk
    rw [Bool.and_eq_true, decide_eq_true_iff, btw_iff]
    refine ⟨fun k hk => ?_, by simp, by simp⟩
    have : k = 0 := by simp at hk; omega
    subst this
    have := hv i hl
    unfold stB
    simp [btw_iff, this]
  · rw [cnt_wrp (fun i hl => (hv i hl).1) hi _ (by omega), ll_wrq hj]
    unfold thn
    simp only [List.getElem?_cons_zero, Option.getD_some]
    by_cases h0 : p[j]?.getD 0 = 0
    · rw [if_pos h0, if_neg]
      · rfl
      · rintro ⟨i, h1, h2, h3⟩
        have hjj : fl p j = j := by
          unfold fl
          rw [h0]
          exact Nat.mod_eq_of_lt hj
        have := hi i j h1 hj (by rw [h3, hjj])
        subst this
        omega
    · rw [if_neg h0, if_pos]
      · rfl
      · obtain ⟨i, h1, h2⟩ := onto hf hi hj
        refine ⟨i, h1, ?_, h2⟩
        have h3 := (hv i h1).1
        by_cases h4 : p[i]?.getD 0 = 0
        · have hii : fl p i = i := by
            unfold fl
            rw [h4]
            exact Nat.mod_eq_of_lt h1
          rw [hii] at h2
          rw [← h2] at h0
          exact absurd h4 h0
        · omega
/-- A sum of the first k values. -/
def smi (f : Nat → Int) : Nat → Int
  | 0 => 0
  | k + 1 => smi f k + f k
theorem smi_congr {f g : Nat → Int} : ∀ {k : Nat}, (∀ i, i < k → f i = g i) → smi f k = smi g k
  | 0, _ => rfl
  | k + 1, h => by
    simp only [smi]
    rw [smi_congr (fun i hi => h i (by omega)), h k (by omega)]
theorem smi_add (f g : Nat → Int) : ∀ k : Nat, smi (fun i => f i + g i) k = smi f k + smi g k
  | 0 => rfl
  | k + 1 => by
    simp only [smi]
    rw [smi_add f g k]
    omega
theorem smi_mul (c : Int) (f : Nat → Int) : ∀ k : Nat, smi (fun i => c * f i) k = c * smi f k
  | 0 => by simp [smi]
  | k + 1 => by
    simp only [smi]
    rw [smi_mul c f k, Int.mul_add]
theorem smi_app (f : Nat → Int) (a : Nat) : ∀ b : Nat, smi f (a + b) = smi f a + smi (fun i => f (a + i)) b
  | 0 => by simp [smi]
  | b + 1 => by
    rw [← Nat.add_assoc]
    simp only [smi]
    rw [smi_app f a b]
    omega
theorem smi_cast (g : Nat → Nat) : ∀ k : Nat, smi (fun i => (g i : Int)) k = ((((List.range k).map g).sum : Nat) : Int)
  | 0 => rfl
  | k + 1 => by
    simp only [smi]
    rw [smi_cast g k, List.range_succ, List.map_append, List.sum_append]
    simp
theorem smi_nonneg {f : Nat → Int} : ∀ {k : Nat}, (∀ i, i < k → 0 ≤ f i) → 0 ≤ smi f k
  | 0, _ => Int.le_refl _
  | k + 1, h => by
    simp only [smi]
    have := smi_nonneg (k := k) (fun i hi => h i (by omega))
    have := h k (by omega)
    omega
theorem smi_perm {n : Nat} {f : Nat → Nat} (hf : ∀ i, i < n → f i < n) (hi : ∀ i j, i < n → j < n → f i = f j → i = j) (g : Nat → Nat) : smi (fun i => (g (f i) : Int)) n = smi (fun i => (g i : Int)) n := by
  rw [smi_cast (fun i => g (f i)), smi_cast g]
  have h := ((perm_map hf hi).map g).sum_nat
  rw [List.map_map] at h
  exact congrArg _ h
theorem acc_smi (p : List Int) : ∀ k : Nat, acc fSum p k = smi (fun i => p[i]?.getD 0) k
  | 0 => rfl
  | k + 1 => by
    show acc fSum p k + _ = _
    rw [acc_smi p k]
    rfl
/-- The throws of a pattern add up to a multiple of its length. -/
theorem vpat_dvd {p : List Int} (h : vpat p = true) : ∃ c, acc fSum p p.length = (p.length : Int) * c := by
  obtain ⟨ht, _⟩ := vpat_ncl h
  obtain ⟨hf, hi⟩ := vpat_fl h
  rw [thr_iff] at ht
  refine ⟨smi (fun i => (((i + (p[i]?.getD 0).toNat) / p.length : Nat) : Int)) p.length, ?_⟩
  have e1 := smi_perm hf hi (fun i => i)
  have e2 : smi (fun i => (i : Int) + p[i]?.getD 0) p.length = smi (fun i => (p.length : Int) * (((i + (p[i]?.getD 0).toNat) / p.length : Nat) : Int) + (fl p i : Int)) p.length := smi_congr (fun i hl => by
    have h1 := Nat.div_add_mod (i + (p[i]?.getD 0).toNat) p.length
    have h2 := (ht.1 i hl).1
    unfold fl
    have h3 : (i : Int) + p[i]?.getD 0 = ((i + (p[i]?.getD 0).toNat : Nat) : Int) := by omega
    rw [h3, ← Int.natCast_mul, ← Int.natCast_add, h1])
  rw [smi_add, smi_add, smi_mul] at e2
  have e3 : smi (fun i : Nat => (i : Int)) p.length = smi Nat.cast p.length := rfl
  rw [e3] at e1
  rw [acc_smi]
  omega
theorem prp_qs (p : List Int) : prp (qs p) = prp p := by
  unfold qs
  by_cases ho : p.length % 2 = 1
  · rw [if_pos ho]
    unfold prp
    have e : acc fSum (p ++ p) (p ++ p).length = 2 * acc fSum p p.length := by
      rw [List.length_append, acc_smi, acc_smi, smi_app]
      have e1 : smi (fun i => (p ++ p)[i]?.getD 0) p.length = smi (fun i => p[i]?.getD 0) p.length := smi_congr (fun i hi => by rw [List.getElem?_append_left hi])
      have e2 : smi (fun i => (p ++ p)[p.length + i]?.getD 0) p.length = smi (fun i => p[i]?.getD 0) p.length := smi_congr (fun i hi => by rw [List.getElem?_append_right (by omega), Nat.add_sub_cancel_left])
      rw [e1, e2]
      omega
    rw [e, List.length_append, show ((p.length + p.length : Nat) : Int) = 2 * (p.length : Int) by omega, Int.mul_ediv_mul_of_pos _ _ (by omega)]
  · rw [if_neg ho]
/-- The throws of a synchronous pattern add up as the slid ones do. -/
theorem sld_sum {ts : List (Int × Bool)} {n : Nat} (hl : ts.length = 2 * n) (h : vsyn ts = true) : acc fSum (sld ts (2 * n)) (2 * n) = smi (tv ts) (2 * n) := by
  unfold vsyn at h
  rw [Bool.and_eq_true] at h
  obtain ⟨h1, h2⟩ := h
  obtain ⟨n1, n6, hs⟩ := slis_iff hl h1
  unfold scl at h2
  rw [decide_eq_true_iff, hl, show 2 * n / 2 = n by omega] at h2
  have hf : ∀ i, i < 2 * n → sl n ts i < 2 * n := fun i _ => sl_lt (by omega) ts i
  have hi : ∀ i j, i < 2 * n → j < 2 * n → sl n ts i = sl n ts j → i = j := fun i j h3 h4 e => by
    rcases Nat.lt_trichotomy i j with hlt | hlt | hlt
    · exact absurd e (h2 j h4 i hlt)
    · exact hlt
    · exact absurd e.symm (h2 i h3 j hlt)
  have e1 := smi_perm hf hi (fun i => i % 2)
  have e2 : smi (fun i => (sld ts (2 * n))[i]?.getD 0 + ((i % 2 : Nat) : Int)) (2 * n) = smi (fun i => tv ts i + ((sl n ts i % 2 : Nat) : Int)) (2 * n) := smi_congr (fun i hi => by
    rw [sld_get hi]
    unfold sdv sl
    cases hp : tp ts i
    · simp
    · rcases Nat.mod_two_eq_zero_or_one i with hm | hm
      · simp [hm]
      · simp [hm])
  rw [smi_add, smi_add] at e2
  rw [acc_smi]
  omega
/-- A notation made of a valid pattern is valid, and gives the pattern back. -/
theorem cnk_back {p : List Int} {l : ByteArray} {q : Int} (hv : vpat p = true) (hq : 1 ≤ q ∧ q ≤ 4) (h0 : (cnk p l q).2.2 = 0) :
    (cnk p l q).1.k = q ∧ vnt (cnk p l q).1 = true ∧ (sgle (cnk p l q).1).2.2 = 0 ∧ (sgle (cnk p l q).1).1 = (if q = 3 then qs p else p) ∧ (cnk p l q).1.s.length % 2 = 0 := by
  have hc : q = 1 ∨ q = 2 ∨ q = 3 ∨ q = 4 := by omega
  have n1 : 1 ≤ p.length := by
    obtain ⟨ht, _⟩ := vpat_ncl hv
    rw [thr_iff] at ht
    omega
  rcases hc with rfl | rfl | rfl | rfl
  · refine ⟨rfl, ?_, rfl, rfl, rfl⟩
    simp [cnk, vnt, ebt, hv]
  · have hw := vmul_wrp hv
    refine ⟨rfl, by simp [cnk, vnt, ebt, hw], ?_, ?_, rfl⟩
    · simp [cnk, sgle, wrp_len, one_wrp]
    · simp [cnk, sgle, wrp_len, one_wrp, sgl_wrp]
  · have hp : (pup p).2 = 0 := by
      unfold cnk at h0
      simp at h0
      split at h0
      · assumption
      · exact h0
    have hw := vsyn_pup hv hp
    have hs := sld_pup hp
    have he : (pup p).1.length % 2 = 0 := by
      rw [(pup_ok hp).2.2, tbk_len]
      exact qs_even p
    refine ⟨by simp [cnk, hp], by simp [cnk, vnt, ebt, hp, hw], by simp [cnk, hp, sgle], by simp [cnk, hp, sgle, hs], by simp [cnk, hp, he]⟩
  · have hp : p.length ≤ 8 := Decidable.byContradiction fun hn => by simp [cnk, hn] at h0
    have hw := vpas_sf hv hp
    refine ⟨by simp [cnk, hp], by simp [cnk, vnt, ebt, hp, hw], by simp [cnk, hp, sgle, sf_len, nop_sf, vls_sf], by simp [cnk, hp, sgle, sf_len, nop_sf, vls_sf], by simp [cnk, hp]⟩
/-- The throws and the code do not hang on what was lost. -/
theorem cnk_same {p : List Int} (l l' : ByteArray) (q : Int) : (cnk p l q).1 = (cnk p l' q).1 ∧ (cnk p l q).2.2 = (cnk p l' q).2.2 := by
  unfold cnk
  split
  · exact ⟨rfl, rfl⟩
  · split
    · exact ⟨rfl, rfl⟩
    · split
      · split
        · exact ⟨rfl, rfl⟩
        · exact ⟨rfl, rfl⟩
      · split
        · exact ⟨rfl, rfl⟩
        · exact ⟨rfl, rfl⟩
theorem vnt_14 {D : ND} (h : vnt D = true) : 1 ≤ D.k ∧ D.k ≤ 4 := by
  rcases vnt_kind h with ⟨hk, _⟩ | ⟨hk, _⟩ | ⟨hk, _⟩ | ⟨hk, _⟩ <;> omega
/-- A conversion without a fault. -/
theorem cnv_ok0 {D : ND} {q : Int} (hne : D.k ≠ q) (h0 : (cnv D q).2.2 = 0) : vnt D = true ∧ (1 ≤ q ∧ q ≤ 4) ∧ (sgle D).2.2 = 0 ∧ cnv D q = cnk (sgle D).1 (sgle D).2.1 q := by
  by_cases hv : vnt D = true
  · by_cases hb : btw q 1 4 = true
    · by_cases hc : (sgle D).2.2 = 0
      · refine ⟨hv, btw_iff.1 hb, hc, ?_⟩
        unfold cnv
        rw [if_pos hv, if_pos hb, if_neg hne, if_pos hc]
      · unfold cnv at h0
        rw [if_pos hv, if_pos hb, if_neg hne, if_neg hc] at h0
        exact absurd h0 hc
    · unfold cnv at h0
      rw [if_pos hv, if_neg hb] at h0
      cases h0
  · unfold cnv at h0
    rw [if_neg hv] at h0
    cases h0
theorem cnv_eq {D : ND} {q : Int} (hne : D.k ≠ q) (hv : vnt D = true) (hq : 1 ≤ q ∧ q ≤ 4) (hc : (sgle D).2.2 = 0) : cnv D q = cnk (sgle D).1 (sgle D).2.1 q := by
  unfold cnv
  rw [if_pos hv, if_pos (btw_iff.2 hq), if_neg hne, if_pos hc]
/-- What is converted there and back and there again is the same. -/
theorem cnv_there {D : ND} {q : Int} (hs : D.s.length % 2 = 0) (hne : D.k ≠ q) (h0 : (cnv D q).2.2 = 0) :
    vnt (cnv D q).1 = true ∧ (cnv D q).1.k = q ∧ (cnv D q).1.s.length % 2 = 0 ∧ (sgle (cnv D q).1).2.2 = 0 ∧ (sgle (cnv D q).1).1 = (if q = 3 then qs (sgle D).1 else (sgle D).1) ∧
    ((cnv (cnv D q).1 D.k).2.2 = 5 ∧ D.k = 4 ∨
      (cnv (cnv D q).1 D.k).2.2 = 0 ∧ (cnv (cnv (cnv D q).1 D.k).1 q).1 = (cnv D q).1 ∧ (cnv (cnv (cnv D q).1 D.k).1 q).2.2 = 0) := by
  obtain ⟨hv, hq, hc, he⟩ := cnv_ok0 hne h0
  have hp := sgle_vpat hv (by omega) hc
  have hk := vnt_14 hv
  have h3 : D.k = 3 → (pup (sgle D).1).2 = 0 ∧ qs (sgle D).1 = (sgle D).1 := fun h => by
    rcases vnt_kind hv with ⟨hk, hw⟩ | ⟨hk, hw⟩ | ⟨hk, hw⟩ | ⟨hk, hw⟩
    · omega
    · omega
    · have e1 : (sgle D).1 = sld D.s (2 * (D.s.length / 2)) := by
        unfold sgle
        rw [if_neg (by omega), if_pos hk, show 2 * (D.s.length / 2) = D.s.length by omega]
      rw [e1, pup_sld (by omega) hw]
      refine ⟨rfl, ?_⟩
      unfold qs
      rw [sld_len, if_neg (by omega)]
    · omega
  rw [he] at h0 ⊢
  generalize (sgle D).2.1 = l at *
  generalize (sgle D).1 = p at *
  clear he hc
  obtain ⟨x1, x2, x3, x4, x5⟩ := cnk_back hp hq h0
  obtain ⟨x, hx⟩ : ∃ x, (cnk p l q).1 = x := ⟨_, rfl⟩
  rw [hx] at x1 x2 x3 x4 x5 ⊢
  refine ⟨x2, x1, x5, x3, x4, ?_⟩
  have hp' := sgle_vpat x2 (by omega) x3
  rw [cnv_eq (by omega) x2 hk x3]
  generalize (sgle x).2.1 = l' at *
  generalize (sgle x).1 = p' at *
  by_cases hb : (cnk p' l' D.k).2.2 = 0
  · refine .inr ⟨hb, ?_⟩
    obtain ⟨y1, y2, y3, y4, y5⟩ := cnk_back hp' hk hb
    obtain ⟨y, hy⟩ : ∃ y, (cnk p' l' D.k).1 = y := ⟨_, rfl⟩
    rw [hy] at y1 y2 y3 y4 y5 ⊢
    rw [cnv_eq (by omega) y2 hq y3]
    have e1 : (sgle y).1 = p' := by
      rw [y4]
      split
      · rename_i hk3
        rw [x4, if_neg (by omega)]
        exact (h3 hk3).2
      · rfl
    rw [e1]
    generalize (sgle y).2.1 = l'' at *
    rw [(cnk_same l'' l q).1, (cnk_same l'' l q).2, ← hx, x4]
    by_cases hq3 : q = 3
    · subst hq3
      rw [if_pos rfl]
      have e2 : cnk (qs p) l 3 = cnk p l 3 := by
        unfold cnk
        rw [pup_qs]
        rfl
      rw [e2]
      exact ⟨rfl, h0⟩
    · rw [if_neg hq3]
      exact ⟨rfl, h0⟩
  · left
    have hc4 : D.k = 1 ∨ D.k = 2 ∨ D.k = 3 ∨ D.k = 4 := by omega
    rcases hc4 with h | h | h | h
    · rw [h] at hb
      exact absurd rfl hb
    · rw [h] at hb
      exact absurd rfl hb
    · rw [h] at hb
      rw [if_neg (by omega)] at x4
      rw [x4] at hb
      simp [cnk, (h3 h).1] at hb
    · refine ⟨?_, h⟩
      rw [h] at hb ⊢
      by_cases h8 : p'.length ≤ 8
      · simp [cnk, h8] at hb
      · simp [cnk, h8]
/-- The throws of a multiplex pattern, added up. -/
def smm (L : List (List Int)) : Int := smi (fun i => acc fSum (ll L i) (ll L i).length) L.length
/-- The props of a notation. -/
def npr (D : ND) : Int :=
  if D.k = 1 then prp D.p else if D.k = 2 then smm D.m / (D.m.length : Int) else if D.k = 3 then smi (tv D.s) D.s.length / (D.s.length : Int) else smi (fun i => tv D.a i + tv D.b i) D.a.length / (D.a.length : Int)
/-- The beats of a notation. -/
def nbt (D : ND) : Int := if D.k = 1 then (D.p.length : Int) else if D.k = 2 then (D.m.length : Int) else if D.k = 3 then (D.s.length : Int) else (D.a.length : Int)
theorem npr_sgle {D : ND} (h : vnt D = true) (hs : D.s.length % 2 = 0) (hc : (sgle D).2.2 = 0) : npr D = (if D.k = 4 then 2 * prp (sgle D).1 else prp (sgle D).1) ∧ nbt D = ((sgle D).1.length : Int) := by
  have hp := sgle_vpat h (by omega) hc
  rcases vnt_kind h with ⟨hk, hv⟩ | ⟨hk, hv⟩ | ⟨hk, hv⟩ | ⟨hk, hv⟩
  · unfold npr nbt sgle
    simp [hk]
  · unfold sgle at hc ⊢
    rw [if_pos hk] at hc ⊢
    by_cases ho : One D.m D.m.length
    · rw [if_pos ho]
      unfold npr nbt
      rw [if_neg (by omega), if_pos hk, if_neg (by omega), if_neg (by omega), if_pos hk]
      dsimp only
      rw [sgl_len]
      refine ⟨?_, rfl⟩
      unfold prp smm
      rw [sgl_len, acc_smi]
      refine congrArg (· / (D.m.length : Int)) (smi_congr (fun i hi => ?_))
      have hr := (stks_iff (by unfold vmul at hv; rw [Bool.and_eq_true] at hv; exact hv.1)).2.2 i hi
      have h1 : (ll D.m i).length = 1 := by
        have := hr.1
        have := ho i hi
        omega
      rw [h1, sgl_get hi]
      show 0 + (ll D.m i)[0]?.getD 0 = _
      omega
    · rw [if_neg ho] at hc
      cases hc
  · have e1 : sgle D = (sld D.s D.s.length, tT, 0) := by
      unfold sgle
      rw [if_neg (by omega), if_pos hk]
    have e2 : npr D = smi (tv D.s) D.s.length / (D.s.length : Int) := by
      unfold npr
      rw [if_neg (by omega), if_neg (by omega), if_pos hk]
    have e3 : nbt D = (D.s.length : Int) := by
      unfold nbt
      rw [if_neg (by omega), if_neg (by omega), if_pos hk]
    rw [e1, e2, e3, if_neg (by omega)]
    dsimp only
    rw [sld_len]
    refine ⟨?_, rfl⟩
    unfold prp
    have e := sld_sum (n := D.s.length / 2) (ts := D.s) (by omega) hv
    rw [show 2 * (D.s.length / 2) = D.s.length by omega] at e
    rw [sld_len, e]
  · by_cases ho : NoP D.a D.a.length ∧ NoP D.b D.a.length
    · have e0 : sgle D = (vls D.a D.a.length, tJ, if vls D.a D.a.length = vls D.b D.a.length then 0 else 10) := by
        unfold sgle
        rw [if_neg (by omega), if_neg (by omega), if_pos hk, if_pos ho]
      have e2 : npr D = smi (fun i => tv D.a i + tv D.b i) D.a.length / (D.a.length : Int) := by
        unfold npr
        rw [if_neg (by omega), if_neg (by omega), if_neg (by omega)]
      have e3 : nbt D = (D.a.length : Int) := by
        unfold nbt
        rw [if_neg (by omega), if_neg (by omega), if_neg (by omega)]
      rw [e0] at hp hc
      rw [e0, e2, e3, if_pos hk]
      dsimp only at hp hc ⊢
      have hab : vls D.a D.a.length = vls D.b D.a.length := Decidable.byContradiction fun hn => by
        rw [if_neg hn] at hc
        cases hc
      rw [vls_len]
      refine ⟨?_, rfl⟩
      obtain ⟨c, e⟩ := vpat_dvd hp
      have n1 : 1 ≤ D.a.length := by
        obtain ⟨ht, _⟩ := vpat_ncl hp
        rw [thr_iff, vls_len] at ht
        omega
      unfold prp
      rw [e, vls_len, Int.mul_ediv_cancel_left _ (by omega), smi_add]
      rw [acc_smi, vls_len] at e
      have e1 : smi (fun i => (vls D.a D.a.length)[i]?.getD 0) D.a.length = smi (tv D.a) D.a.length := smi_congr (fun i hi => vls_get hi)
      have e2 : smi (fun i => (vls D.a D.a.length)[i]?.getD 0) D.a.length = smi (tv D.b) D.a.length := by
        rw [hab]
        exact smi_congr (fun i hi => vls_get hi)
      rw [← e1, ← e2, e, show (D.a.length : Int) * c + (D.a.length : Int) * c = (D.a.length : Int) * (2 * c) by rw [← Int.mul_add]; congr 1; omega, Int.mul_ediv_cancel_left _ (by omega)]
    · have e0 : (sgle D).2.2 = 10 := by
        unfold sgle
        rw [if_neg (by omega), if_neg (by omega), if_pos hk, if_neg ho]
      rw [e0] at hc
      cases hc
/-- A notation that is of the kind already. -/
theorem cnv_self {D : ND} {q : Int} (hk : D.k = q) (h0 : (cnv D q).2.2 = 0) : vnt D = true ∧ cnv D q = (D, tz, 0) := by
  unfold cnv at h0 ⊢
  by_cases hv : vnt D = true
  · have h14 := vnt_14 hv
    rw [if_pos hv, if_pos (btw_iff.2 (by omega)), if_pos hk]
    exact ⟨hv, rfl⟩
  · rw [if_neg hv] at h0
    cases h0
/-- Props and beats of what is converted. -/
theorem cnv_props {D : ND} {q : Int} (hs : D.s.length % 2 = 0) (hne : D.k ≠ q) (h0 : (cnv D q).2.2 = 0) :
    (if D.k = 4 ∧ q ≠ 4 then 2 * npr (cnv D q).1 else npr (cnv D q).1) = (if q = 4 ∧ D.k ≠ 4 then 2 * npr D else npr D) ∧ (nbt (cnv D q).1 = nbt D ∨ nbt (cnv D q).1 = 2 * nbt D) := by
  obtain ⟨hv, hq, hc, _⟩ := cnv_ok0 hne h0
  obtain ⟨x2, x1, x5, x3, x4, _⟩ := cnv_there hs hne h0
  obtain ⟨a1, a2⟩ := npr_sgle hv hs hc
  obtain ⟨b1, b2⟩ := npr_sgle x2 x5 x3
  rw [x4, x1] at b1
  rw [x4] at b2
  have e : prp (if q = 3 then qs (sgle D).1 else (sgle D).1) = prp (sgle D).1 := by
    split
    · exact prp_qs _
    · rfl
  rw [e] at b1
  rw [a1, a2, b1, b2]
  constructor
  · by_cases h4 : D.k = 4
    · have : q ≠ 4 := by omega
      simp [h4, this]
    · by_cases hq4 : q = 4
      · simp [h4, hq4]
      · simp [h4, hq4]
  · split
    · rw [qs_len]
      split
      · right; omega
      · left; rfl
    · left; rfl
end Go.Proofs.YtbihbhdaenhdoaaGreat
