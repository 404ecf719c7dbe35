/- Ndr Nbt Ndw Ndx Late Fcl in one text (a claim has at most 60 files). No condition but the stated bounds. -/
import Derived.Test.YtbihbhdaenhdoaaGreatFj2
import Derived.Test.YtbihbhdaenhdoaaGreatFj1
import Derived.Test.YtbihbhdaenhdoaaGreatFj5
import Derived.Test.YtbihbhdaenhdoaaGreatFj6
import Derived.Test.YtbihbhdaenhdoaaGreatCqx
import Derived.Deep.CutRange
import Derived.Deep.RegionHeld3
namespace Go.Proofs.YtbihbhdaenhdoaaGreat
set_option linter.unusedVariables false
set_option linter.unusedSimpArgs false
open Go.ChangeShapes Go.WideShapes Go.ChangeAt Go.RowKit Go.Joins Go.Deep

/-- At most one part is long. -/
structure Cpb (D : ND) : Prop where
  p : D.p.length ≤ 12
  m : D.m.length ≤ 12
  l : ∀ i, i < D.m.length → (ll D.m i).length ≤ 1000000
  r : (D.s.length = 0 ∧ D.a.length = 0 ∧ D.b.length = 0) ∨ ((2 ≤ D.s.length ∧ D.s.length ≤ 2000) ∧ D.a.length = 0 ∧ D.b.length = 0) ∨ (D.s.length = 0 ∧ (1 ≤ D.a.length ∧ D.a.length ≤ 8) ∧ 1 ≤ D.b.length ∧ D.b.length ≤ 8)
theorem vnt_cpb {D : ND} (h : vnt D = true) (he : D.s.length % 2 = 0) : Cpb D := by
  obtain ⟨h1, h2, h3, h4⟩ := vnt_split h
  rcases vnt_kind h with ⟨hk, hv⟩ | ⟨hk, hv⟩ | ⟨hk, hv⟩ | ⟨hk, hv⟩
  · have := vpat_len hv
    exact ⟨by omega, by omega, fun i hi => by omega, .inl (by omega)⟩
  · have := vmul_len hv
    exact ⟨by omega, by omega, fun i hi => by have := (vmul_b15 hv hi).1; omega, .inl (by omega)⟩
  · have := vsyn_len hv
    exact ⟨by omega, by omega, fun i hi => by omega, .inr (.inl (by omega))⟩
  · have := vpas_len hv
    exact ⟨by omega, by omega, fun i hi => by omega, .inr (.inr (by omega))⟩
section
variable {W : World} {lo hi : Nat}
theorem nto_pat {B : Option Addr} {m d : Nat} {ys : List Int} (h : Row W lo hi 2 1 B m d ys) (hlh : lo ≤ hi) : NtO W lo hi (NV.mk 1 B m d none 0 0 none 0 0 none 0 0 none 0 0) ⟨1, ys, [], [], [], []⟩ :=
  ⟨rfl, lo, hi, hi, hi, hi, hi, hi, hi, ⟨by omega, by omega, by omega, by omega, by omega, by omega, by omega, by omega, by omega, by omega⟩, .inl h, .inr ⟨rfl, rfl⟩, .inr ⟨rfl, rfl⟩, .inr ⟨rfl, rfl, rfl, rfl⟩⟩
theorem nto_mul {B : Option Addr} {m d : Nat} {K : List (List Int)} (h : LRow W lo hi B m d K) (hlh : lo ≤ hi) : NtO W lo hi (NV.mk 2 none 0 0 B m d none 0 0 none 0 0 none 0 0) ⟨2, [], K, [], [], []⟩ :=
  ⟨rfl, lo, lo, lo, hi, hi, hi, hi, hi, ⟨by omega, by omega, by omega, by omega, by omega, by omega, by omega, by omega, by omega, by omega⟩, .inr ⟨rfl, rfl⟩, .inl h, .inr ⟨rfl, rfl⟩, .inr ⟨rfl, rfl, rfl, rfl⟩⟩
theorem nto_syn {B : Option Addr} {m d : Nat} {ts : List (Int × Bool)} (h : RowS W lo hi B m d ts) (hlh : lo ≤ hi) : NtO W lo hi (NV.mk 3 none 0 0 none 0 0 B m d none 0 0 none 0 0) ⟨3, [], [], ts, [], []⟩ :=
  ⟨rfl, lo, lo, lo, lo, lo, hi, hi, hi, ⟨by omega, by omega, by omega, by omega, by omega, by omega, by omega, by omega, by omega, by omega⟩, .inr ⟨rfl, rfl⟩, .inr ⟨rfl, rfl⟩, .inl h, .inr ⟨rfl, rfl, rfl, rfl⟩⟩
theorem nto_pas {B C : Option Addr} {m d n f : Nat} {ts us : List (Int × Bool)} (h : PassR W lo hi B m d C n f ts us) (hlh : lo ≤ hi) : NtO W lo hi (NV.mk 4 none 0 0 none 0 0 none 0 0 B m d C n f) ⟨4, [], [], [], ts, us⟩ :=
  ⟨rfl, lo, lo, lo, lo, lo, lo, lo, hi, ⟨by omega, by omega, by omega, by omega, by omega, by omega, by omega, by omega, by omega, by omega⟩, .inr ⟨rfl, rfl⟩, .inr ⟨rfl, rfl⟩, .inr ⟨rfl, rfl⟩, .inl h⟩
end
theorem bdL_nil : bdL [] := fun i hi => absurd hi (by simp)
theorem pat_ok {k : Int} {ys : List Int} (h : vpat ys = true) : (⟨k, ys, [], [], [], []⟩ : ND).Sm ∧ (⟨k, ys, [], [], [], []⟩ : ND).Bd ∧ Cpb ⟨k, ys, [], [], [], []⟩ := by
  have hl := vpat_len h
  exact ⟨⟨by show ys.length ≤ _; omega, Nat.zero_le _, fun i hi => absurd hi (by simp), Nat.zero_le _, Nat.zero_le _, Nat.zero_le _⟩, ⟨vpat_bd h, bdL_nil⟩, ⟨by show ys.length ≤ _; omega, Nat.zero_le _, fun i hi => absurd hi (by simp), .inl ⟨rfl, rfl, rfl⟩⟩⟩
theorem mul_ok {k : Int} {K : List (List Int)} (h : vmul K = true) : (⟨k, [], K, [], [], []⟩ : ND).Sm ∧ (⟨k, [], K, [], [], []⟩ : ND).Bd ∧ Cpb ⟨k, [], K, [], [], []⟩ := by
  have hl := vmul_len h
  have hr : ∀ i, i < K.length → (ll K i).length ≤ 4 := fun i hi => (vmul_b15 h hi).1
  exact ⟨⟨Nat.zero_le _, by show K.length ≤ _; omega, fun i hi => by have := hr i hi; show (ll K i).length ≤ _; omega, Nat.zero_le _, Nat.zero_le _, Nat.zero_le _⟩, ⟨by simp, vmul_bdL h⟩, ⟨Nat.zero_le _, by show K.length ≤ _; omega, fun i hi => by have := hr i hi; show (ll K i).length ≤ _; omega, .inl ⟨rfl, rfl, rfl⟩⟩⟩
theorem syn_ok {k : Int} {ts : List (Int × Bool)} (h : 2 ≤ ts.length ∧ ts.length ≤ 2000) : (⟨k, [], [], ts, [], []⟩ : ND).Sm ∧ (⟨k, [], [], ts, [], []⟩ : ND).Bd ∧ Cpb ⟨k, [], [], ts, [], []⟩ :=
  ⟨⟨Nat.zero_le _, Nat.zero_le _, fun i hi => absurd hi (by simp), by show ts.length ≤ _; omega, Nat.zero_le _, Nat.zero_le _⟩, ⟨by simp, bdL_nil⟩, ⟨Nat.zero_le _, Nat.zero_le _, fun i hi => absurd hi (by simp), .inr (.inl ⟨h, rfl, rfl⟩)⟩⟩
theorem pas_ok {k : Int} {ts us : List (Int × Bool)} (h1 : 1 ≤ ts.length ∧ ts.length ≤ 8) (h2 : 1 ≤ us.length ∧ us.length ≤ 8) : (⟨k, [], [], [], ts, us⟩ : ND).Sm ∧ (⟨k, [], [], [], ts, us⟩ : ND).Bd ∧ Cpb ⟨k, [], [], [], ts, us⟩ :=
  ⟨⟨Nat.zero_le _, Nat.zero_le _, fun i hi => absurd hi (by simp), Nat.zero_le _, by show ts.length ≤ _; omega, by show us.length ≤ _; omega⟩, ⟨by simp, bdL_nil⟩, ⟨Nat.zero_le _, Nat.zero_le _, fun i hi => absurd hi (by simp), .inr (.inr ⟨rfl, h1, h2⟩)⟩⟩
theorem grownN_frozen {w w' : World} {g b : Nat} (k : w.grownBy w' (some g)) (hb : b < w.heap.size) (hne : b ≠ g) (o : Nat) : w'.frozen? ⟨b, o, none⟩ = w.frozen? ⟨b, o, none⟩ :=
  World.frozen?_of_block (k.block b hb (fun e => hne (by cases e; rfl)))
theorem Six.grown {w w' : World} {g b : Nat} (h : Six w b) (k : w.grownBy w' (some g)) (hne : b ≠ g) : Six w' b :=
  ⟨Nat.lt_of_lt_of_le h.lt k.size, fun i hi => by obtain ⟨u, hu⟩ := h.c i hi; exact ⟨u, (grown_cell k h.lt hne i).trans hu⟩, fun i => (grownN_frozen k h.lt hne i).trans (h.f i)⟩
theorem sto_grown {w W : World} {g g0 : Nat} (k : w.grownBy W (some g)) (h : w.heap.size ≤ g0) (V : NV) : w.grownBy (sto W g0 V) (some g) := by
  unfold sto
  exact grown_put (grown_put (grown_put (grown_put (grown_put (grown_put k h _) h _) h _) h _) h _) h _
theorem sto_srd {w0 W : World} {g g0 n c top : Nat} {A : Option Addr} {xs : List Int} (k : Srd w0 W g A n c xs top) (h : g < g0) (V : NV) : Srd w0 (sto W g0 V) g A n c xs top := by
  unfold sto
  exact (((((k.put h _).put h _).put h _).put h _).put h _).put h _
theorem l02Draw7_any (w0 w : World) (g : Nat) (A : Option Addr) (n c : Nat) (xs : List Int) (top : Nat) (h : Srd w0 w g A n c xs top) (ht : top ≤ 900000000) :
    Calls Tryz.prog 85 #[.pointer (some ⟨g, 0, none⟩), .int .i64 7] w (DrawnV w0 w g A n c xs (top + 400)) := l02DrawV_any 7 w0 w g A n c xs top h ht (by omega)
/-- Empty slices of a notation that grow later are nil. -/
def Stg (V : NV) : Prop := (V.na = 0 → V.A = Option.none ∧ V.ca = 0) ∧ (V.np = 0 → V.P = Option.none ∧ V.cp = 0)
/-- What l07From hands back. -/
def RetCs (w : World) (r : ND × ByteArray × Int) (e : Ending) (w' : World) : Prop := ∃ V : NV, e = .returned (.tuple #[V.val, .string r.2.1, .int .i64 r.2.2]) ∧ NtO w' w.heap.size w'.heap.size V r.1 ∧ Ext w w' ∧ Stg V
theorem RetCs.ext {w W W' : World} {r : ND × ByteArray × Int} {e : Ending} (h : RetCs w r e W) (k : Ext W W') : RetCs w r e W' := by
  obtain ⟨V, h1, h2, h3, h4⟩ := h
  exact ⟨V, h1, (h2.ext k).wide (Nat.le_refl _) k.size, h3.trans k, h4⟩
theorem cn_doneS {w W : World} {g lo hi : Nat} {V : NV} {D : ND} (hst : Stg V) (hs : Six W g) (h : NtO W lo hi V D) (hg : w.heap.size ≤ g) (hlo : g < lo) (hh : hi ≤ W.heap.size) (hX : Ext w W) (l : ByteArray) (c : Int) :
    NBox (sto W g V) g V ∧ RetCs w (D, l, c) (.returned (.tuple #[V.val, .string l, .int .i64 c])) (sto W g V) := by
  have hz := sto_size W g V
  exact ⟨sto_box hs V, V, rfl, (h.held (sto_kept W g V) (by omega)).wide (by omega) (by omega), sto_ext hX hg V, hst⟩
/-- A drawn notation in memory of the call's own. -/
def DrawnNt (w0 w : World) (g : Nat) (A : Option Addr) (n c : Nat) (xs : List Int) (top : Nat) (e : Ending) (w' : World) : Prop :=
  ∃ (V : NV) (D : ND), e = .returned V.val ∧ NtO w' (w.heap.size + 1) w'.heap.size V D ∧ (D.Sm ∧ D.Bd ∧ Cpb D) ∧ Stg V ∧ Srd w0 w' g A n c xs top ∧ w.grownBy w' (some g)
/-- A drawn notation is stored and handed back. -/
theorem drn_done {w0 w W : World} {g n c top : Nat} {A : Option Addr} {xs : List Int} {lo hi : Nat} {V : NV} {D : ND} (hs : Six W w.heap.size) (h : NtO W lo hi V D) (hlo : w.heap.size < lo) (hh : hi ≤ W.heap.size) (hD : D.Sm ∧ D.Bd ∧ Cpb D) (hst : Stg V) (hg : g < w.heap.size) (hS : Srd w0 W g A n c xs top) (hG : w.grownBy W (some g)) :
    NBox (sto W w.heap.size V) w.heap.size V ∧ DrawnNt w0 w g A n c xs top (.returned V.val) (sto W w.heap.size V) := by
  have hz := sto_size W w.heap.size V
  exact ⟨sto_box hs V, V, D, rfl, (h.held (sto_kept W w.heap.size V) (.inr hlo)).wide hlo (by omega), hD, hst, sto_srd hS hg V, sto_grown hG (Nat.le_refl _) V⟩
set_option maxHeartbeats 4000000 in
theorem from2s (A : Option Addr) (n c : Nat) (p : List Int) (w : World) (hI : Ints w A n p) (hn : n ≤ 1000) : Calls Tryz.prog 32 #[.slice A n c, .int .i64 2] w (RetCs w (⟨2, [], wrp p, [], [], []⟩, tz, 0)) := by
  have HR0 : Hid (Six ((w.alloc (.cells #[.int .i64 0, .slice none 0 0, .slice none 0 0, .slice none 0 0, .slice none 0 0, .slice none 0 0] 33)).alloc (.cells #[.int .i64 2, .slice none 0 0, .slice none 0 0, .slice none 0 0, .slice none 0 0, .slice none 0 0] 33)) w.heap.size) := (Six.new w _ _ _ _ _ _ _).ext ((Ext.refl _).alloc _)
  have HB0 : Hid (NBox ((w.alloc (.cells #[.int .i64 0, .slice none 0 0, .slice none 0 0, .slice none 0 0, .slice none 0 0, .slice none 0 0] 33)).alloc (.cells #[.int .i64 2, .slice none 0 0, .slice none 0 0, .slice none 0 0, .slice none 0 0, .slice none 0 0] 33)) (w.heap.size + 1) (NV.mk 2 none 0 0 none 0 0 none 0 0 none 0 0 none 0 0)) := by
    have := NBox.new (w.alloc (.cells #[.int .i64 0, .slice none 0 0, .slice none 0 0, .slice none 0 0, .slice none 0 0, .slice none 0 0] 33)) (NV.mk 2 none 0 0 none 0 0 none 0 0 none 0 0 none 0 0)
    rw [show (w.alloc (.cells #[.int .i64 0, .slice none 0 0, .slice none 0 0, .slice none 0 0, .slice none 0 0, .slice none 0 0] 33)).heap.size = w.heap.size + 1 by simp] at this
    exact this
  have HS0 : Hid (Six ((w.alloc (.cells #[.int .i64 0, .slice none 0 0, .slice none 0 0, .slice none 0 0, .slice none 0 0, .slice none 0 0] 33)).alloc (.cells #[.int .i64 2, .slice none 0 0, .slice none 0 0, .slice none 0 0, .slice none 0 0, .slice none 0 0] 33)) (w.heap.size + 1)) := by
    have := Six.new (w.alloc (.cells #[.int .i64 0, .slice none 0 0, .slice none 0 0, .slice none 0 0, .slice none 0 0, .slice none 0 0] 33)) (.int .i64 2) (.slice none 0 0) (.slice none 0 0) (.slice none 0 0) (.slice none 0 0) (.slice none 0 0) 33
    rw [show (w.alloc (.cells #[.int .i64 0, .slice none 0 0, .slice none 0 0, .slice none 0 0, .slice none 0 0, .slice none 0 0] 33)).heap.size = w.heap.size + 1 by simp] at this
    exact this
  have E0 : Ext w ((w.alloc (.cells #[.int .i64 0, .slice none 0 0, .slice none 0 0, .slice none 0 0, .slice none 0 0, .slice none 0 0] 33)).alloc (.cells #[.int .i64 2, .slice none 0 0, .slice none 0 0, .slice none 0 0, .slice none 0 0, .slice none 0 0] 33)) := ((Ext.refl _).alloc _).alloc _
  go_enter Tryz.func32, Tryz.ntmps32
  go_wp2_with fail
  (with_reducible refine (l04Single_any A n c p _ (hI.ext E0) hn).mono ?_)
  rintro e w4 ⟨C, d, rfl, hR, hx4⟩
  have E4 := E0.trans hx4
  have hz4 := hx4.size
  (try simp at hz4)
  have HR4 := Lib.hid (HR0.out.ext hx4)
  obtain ⟨y0, x0⟩ := HR4.out.c 0 (by omega)
  obtain ⟨y1, x1⟩ := HR4.out.c 1 (by omega)
  obtain ⟨y2, x2⟩ := HR4.out.c 2 (by omega)
  obtain ⟨y3, x3⟩ := HR4.out.c 3 (by omega)
  obtain ⟨y4, x4⟩ := HR4.out.c 4 (by omega)
  obtain ⟨y5, x5⟩ := HR4.out.c 5 (by omega)
  have xf := HR4.out.f
  have xl := HR4.out.lt
  obtain ⟨lb, m0, m1, m2, m3, m4, m5⟩ := HB0.out.ext hx4
  dsimp only at m0 m1 m2 m3 m4 m5
  have mf := (HS0.out.ext hx4).f
  have hR4 : LRow w4 (w.heap.size + 2) w4.heap.size C n d (wrp p) := by simpa using hR
  have HD := Lib.hid (cn_doneS (w := w) (W := w4.setCell ⟨w.heap.size + 1, 2, none⟩ (.slice C n d)) (g := w.heap.size) (V := (NV.mk 2 none 0 0 C n d none 0 0 none 0 0 none 0 0)) (D := ⟨2, [], wrp p, [], [], []⟩) (lo := w.heap.size + 2) (hi := w4.heap.size) ⟨fun _ => ⟨rfl, rfl⟩, fun h => by first | exact ⟨rfl, rfl⟩ | exact absurd (show n = 0 from h) (by omega)⟩ (HR4.out.set _ _) ⟨rfl, w.heap.size + 2, w.heap.size + 2, w.heap.size + 2, w4.heap.size, w.heap.size + 2, w.heap.size + 2, w.heap.size + 2, w.heap.size + 2, ⟨by omega, by omega, by omega, by omega, by omega, by omega, by omega, by omega, by omega, by omega⟩, .inr ⟨rfl, rfl⟩, .inl (hR4.far (.inl (by show w.heap.size + 1 < _; omega)) _), .inr ⟨rfl, rfl⟩, .inr ⟨rfl, rfl, rfl, rfl⟩⟩ (Nat.le_refl _) (by omega) (by simp [World.setCell]) (E4.set (by show w.heap.size ≤ w.heap.size + 1; omega) _) tz 0)
  clear hR hR4
  go_wp2
  refine bodyPost_ret (v := .tuple #[(NV.mk 2 none 0 0 C n d none 0 0 none 0 0 none 0 0).val, .string tz, .int .i64 0]) ?_ ?_ ?_
  · exact results_not3 Tryz.results32 rfl HD.out.1
  · rfl
  · exact HD.out.2
set_option maxHeartbeats 4000000 in
theorem from3s (A : Option Addr) (n c : Nat) (p : List Int) (w : World) (hI : Ints w A n p) (hv : vpat p = true) : Calls Tryz.prog 32 #[.slice A n c, .int .i64 3] w (RetCs w (⟨3, [], [], (pup p).1, [], []⟩, tT, (pup p).2)) := by
  have HR0 : Hid (Six ((w.alloc (.cells #[.int .i64 0, .slice none 0 0, .slice none 0 0, .slice none 0 0, .slice none 0 0, .slice none 0 0] 33)).alloc (.cells #[.int .i64 3, .slice none 0 0, .slice none 0 0, .slice none 0 0, .slice none 0 0, .slice none 0 0] 33)) w.heap.size) := (Six.new w _ _ _ _ _ _ _).ext ((Ext.refl _).alloc _)
  have HB0 : Hid (NBox ((w.alloc (.cells #[.int .i64 0, .slice none 0 0, .slice none 0 0, .slice none 0 0, .slice none 0 0, .slice none 0 0] 33)).alloc (.cells #[.int .i64 3, .slice none 0 0, .slice none 0 0, .slice none 0 0, .slice none 0 0, .slice none 0 0] 33)) (w.heap.size + 1) (NV.mk 3 none 0 0 none 0 0 none 0 0 none 0 0 none 0 0)) := by
    have := NBox.new (w.alloc (.cells #[.int .i64 0, .slice none 0 0, .slice none 0 0, .slice none 0 0, .slice none 0 0, .slice none 0 0] 33)) (NV.mk 3 none 0 0 none 0 0 none 0 0 none 0 0 none 0 0)
    rw [show (w.alloc (.cells #[.int .i64 0, .slice none 0 0, .slice none 0 0, .slice none 0 0, .slice none 0 0, .slice none 0 0] 33)).heap.size = w.heap.size + 1 by simp] at this
    exact this
  have HS0 : Hid (Six ((w.alloc (.cells #[.int .i64 0, .slice none 0 0, .slice none 0 0, .slice none 0 0, .slice none 0 0, .slice none 0 0] 33)).alloc (.cells #[.int .i64 3, .slice none 0 0, .slice none 0 0, .slice none 0 0, .slice none 0 0, .slice none 0 0] 33)) (w.heap.size + 1)) := by
    have := Six.new (w.alloc (.cells #[.int .i64 0, .slice none 0 0, .slice none 0 0, .slice none 0 0, .slice none 0 0, .slice none 0 0] 33)) (.int .i64 3) (.slice none 0 0) (.slice none 0 0) (.slice none 0 0) (.slice none 0 0) (.slice none 0 0) 33
    rw [show (w.alloc (.cells #[.int .i64 0, .slice none 0 0, .slice none 0 0, .slice none 0 0, .slice none 0 0, .slice none 0 0] 33)).heap.size = w.heap.size + 1 by simp] at this
    exact this
  have E0 : Ext w ((w.alloc (.cells #[.int .i64 0, .slice none 0 0, .slice none 0 0, .slice none 0 0, .slice none 0 0, .slice none 0 0] 33)).alloc (.cells #[.int .i64 3, .slice none 0 0, .slice none 0 0, .slice none 0 0, .slice none 0 0, .slice none 0 0] 33)) := ((Ext.refl _).alloc _).alloc _
  obtain ⟨z, hzz⟩ : ∃ z, pup p = z := ⟨_, rfl⟩
  have HZ := Lib.hid hzz
  rw [hzz]
  clear hzz
  go_enter Tryz.func32, Tryz.ntmps32
  go_wp2_with fail
  (with_reducible refine (specPairUp_any A n c p _ (hI.ext E0) hv).mono ?_)
  rw [HZ.out]
  rintro e w4 ⟨C, m, d, rfl, hR, hx4⟩
  have E4 := E0.trans hx4
  have hz4 := hx4.size
  (try simp at hz4)
  have HR4 := Lib.hid (HR0.out.ext hx4)
  obtain ⟨y0, x0⟩ := HR4.out.c 0 (by omega)
  obtain ⟨y1, x1⟩ := HR4.out.c 1 (by omega)
  obtain ⟨y2, x2⟩ := HR4.out.c 2 (by omega)
  obtain ⟨y3, x3⟩ := HR4.out.c 3 (by omega)
  obtain ⟨y4, x4⟩ := HR4.out.c 4 (by omega)
  obtain ⟨y5, x5⟩ := HR4.out.c 5 (by omega)
  have xf := HR4.out.f
  have xl := HR4.out.lt
  obtain ⟨lb, m0, m1, m2, m3, m4, m5⟩ := HB0.out.ext hx4
  dsimp only at m0 m1 m2 m3 m4 m5
  have mf := (HS0.out.ext hx4).f
  have hR4 : RowS w4 (w.heap.size + 2) w4.heap.size C m d z.1 := by simpa using hR
  have HD := Lib.hid (cn_doneS (w := w) (W := w4.setCell ⟨w.heap.size + 1, 3, none⟩ (.slice C m d)) (g := w.heap.size) (V := (NV.mk 3 none 0 0 none 0 0 C m d none 0 0 none 0 0)) (D := ⟨3, [], [], z.1, [], []⟩) (lo := w.heap.size + 2) (hi := w4.heap.size) ⟨fun _ => ⟨rfl, rfl⟩, fun h => by first | exact ⟨rfl, rfl⟩ | exact absurd (show n = 0 from h) (by omega)⟩ (HR4.out.set _ _) ⟨rfl, w.heap.size + 2, w.heap.size + 2, w.heap.size + 2, w.heap.size + 2, w.heap.size + 2, w4.heap.size, w.heap.size + 2, w.heap.size + 2, ⟨by omega, by omega, by omega, by omega, by omega, by omega, by omega, by omega, by omega, by omega⟩, .inr ⟨rfl, rfl⟩, .inr ⟨rfl, rfl⟩, .inl (hR4.far (.inl (by show w.heap.size + 1 < _; omega)) _), .inr ⟨rfl, rfl, rfl, rfl⟩⟩ (Nat.le_refl _) (by omega) (by simp [World.setCell]) (E4.set (by show w.heap.size ≤ w.heap.size + 1; omega) _) tT z.2)
  clear hR hR4
  go_wp2
  refine bodyPost_ret (v := .tuple #[(NV.mk 3 none 0 0 none 0 0 C m d none 0 0 none 0 0).val, .string tT, .int .i64 z.2]) ?_ ?_ ?_
  · exact results_not3 Tryz.results32 rfl HD.out.1
  · rfl
  · exact HD.out.2
set_option maxHeartbeats 4000000 in
theorem from4s (A : Option Addr) (n c : Nat) (p : List Int) (w : World) (hI : Ints w A n p) (hv : vpat p = true) (hn : 1 ≤ n ∧ n ≤ 8) : Calls Tryz.prog 32 #[.slice A n c, .int .i64 4] w (RetCs w (⟨4, [], [], [], sf p, sf p⟩, tz, 0)) := by
  have HR0 : Hid (Six ((w.alloc (.cells #[.int .i64 0, .slice none 0 0, .slice none 0 0, .slice none 0 0, .slice none 0 0, .slice none 0 0] 33)).alloc (.cells #[.int .i64 4, .slice none 0 0, .slice none 0 0, .slice none 0 0, .slice none 0 0, .slice none 0 0] 33)) w.heap.size) := (Six.new w _ _ _ _ _ _ _).ext ((Ext.refl _).alloc _)
  have HB0 : Hid (NBox ((w.alloc (.cells #[.int .i64 0, .slice none 0 0, .slice none 0 0, .slice none 0 0, .slice none 0 0, .slice none 0 0] 33)).alloc (.cells #[.int .i64 4, .slice none 0 0, .slice none 0 0, .slice none 0 0, .slice none 0 0, .slice none 0 0] 33)) (w.heap.size + 1) (NV.mk 4 none 0 0 none 0 0 none 0 0 none 0 0 none 0 0)) := by
    have := NBox.new (w.alloc (.cells #[.int .i64 0, .slice none 0 0, .slice none 0 0, .slice none 0 0, .slice none 0 0, .slice none 0 0] 33)) (NV.mk 4 none 0 0 none 0 0 none 0 0 none 0 0 none 0 0)
    rw [show (w.alloc (.cells #[.int .i64 0, .slice none 0 0, .slice none 0 0, .slice none 0 0, .slice none 0 0, .slice none 0 0] 33)).heap.size = w.heap.size + 1 by simp] at this
    exact this
  have HS0 : Hid (Six ((w.alloc (.cells #[.int .i64 0, .slice none 0 0, .slice none 0 0, .slice none 0 0, .slice none 0 0, .slice none 0 0] 33)).alloc (.cells #[.int .i64 4, .slice none 0 0, .slice none 0 0, .slice none 0 0, .slice none 0 0, .slice none 0 0] 33)) (w.heap.size + 1)) := by
    have := Six.new (w.alloc (.cells #[.int .i64 0, .slice none 0 0, .slice none 0 0, .slice none 0 0, .slice none 0 0, .slice none 0 0] 33)) (.int .i64 4) (.slice none 0 0) (.slice none 0 0) (.slice none 0 0) (.slice none 0 0) (.slice none 0 0) 33
    rw [show (w.alloc (.cells #[.int .i64 0, .slice none 0 0, .slice none 0 0, .slice none 0 0, .slice none 0 0, .slice none 0 0] 33)).heap.size = w.heap.size + 1 by simp] at this
    exact this
  have E0 : Ext w ((w.alloc (.cells #[.int .i64 0, .slice none 0 0, .slice none 0 0, .slice none 0 0, .slice none 0 0, .slice none 0 0] 33)).alloc (.cells #[.int .i64 4, .slice none 0 0, .slice none 0 0, .slice none 0 0, .slice none 0 0, .slice none 0 0] 33)) := ((Ext.refl _).alloc _).alloc _
  go_enter Tryz.func32, Tryz.ntmps32
  go_wp2_with fail
  (with_reducible refine (TogetherOf_any A A n c c p p _ (hI.ext E0) (hI.ext E0) hn hv hv).mono ?_)
  rintro e w4 ⟨C, d, C', d', rfl, hR, hx4⟩
  have E4 := E0.trans hx4
  have hz4 := hx4.size
  (try simp at hz4)
  have HR4 := Lib.hid (HR0.out.ext hx4)
  obtain ⟨y0, x0⟩ := HR4.out.c 0 (by omega)
  obtain ⟨y1, x1⟩ := HR4.out.c 1 (by omega)
  obtain ⟨y2, x2⟩ := HR4.out.c 2 (by omega)
  obtain ⟨y3, x3⟩ := HR4.out.c 3 (by omega)
  obtain ⟨y4, x4⟩ := HR4.out.c 4 (by omega)
  obtain ⟨y5, x5⟩ := HR4.out.c 5 (by omega)
  have xf := HR4.out.f
  have xl := HR4.out.lt
  obtain ⟨lb, m0, m1, m2, m3, m4, m5⟩ := HB0.out.ext hx4
  dsimp only at m0 m1 m2 m3 m4 m5
  have mf := (HS0.out.ext hx4).f
  have hR4 : PassR w4 (w.heap.size + 2) w4.heap.size C n d C' n d' (sf p) (sf p) := by simpa using hR
  have HD := Lib.hid (cn_doneS (w := w) (W := (w4.setCell ⟨w.heap.size + 1, 4, none⟩ (.slice C n d)).setCell ⟨w.heap.size + 1, 5, none⟩ (.slice C' n d')) (g := w.heap.size) (V := (NV.mk 4 none 0 0 none 0 0 none 0 0 C n d C' n d')) (D := ⟨4, [], [], [], sf p, sf p⟩) (lo := w.heap.size + 2) (hi := w4.heap.size) ⟨fun _ => ⟨rfl, rfl⟩, fun h => by first | exact ⟨rfl, rfl⟩ | exact absurd (show n = 0 from h) (by omega)⟩ ((HR4.out.set _ _).set _ _) ⟨rfl, w.heap.size + 2, w.heap.size + 2, w.heap.size + 2, w.heap.size + 2, w.heap.size + 2, w.heap.size + 2, w.heap.size + 2, w4.heap.size, ⟨by omega, by omega, by omega, by omega, by omega, by omega, by omega, by omega, by omega, by omega⟩, .inr ⟨rfl, rfl⟩, .inr ⟨rfl, rfl⟩, .inr ⟨rfl, rfl⟩, .inl ((hR4.held (Kept.set (Kept.of_ext (Ext.refl _)) (lo := w.heap.size + 1) (hi := w.heap.size + 2) (p := ⟨w.heap.size + 1, 4, none⟩) (by simp) (.slice C n d)) (by omega)).held (Kept.set (Kept.of_ext (Ext.refl _)) (lo := w.heap.size + 1) (hi := w.heap.size + 2) (p := ⟨w.heap.size + 1, 5, none⟩) (by simp) (.slice C' n d')) (by omega))⟩ (Nat.le_refl _) (by omega) (by simp [World.setCell]) ((E4.set (by show w.heap.size ≤ w.heap.size + 1; omega) _).set (by show w.heap.size ≤ w.heap.size + 1; omega) _) tz 0)
  clear hR hR4
  go_wp2
  refine bodyPost_ret (v := .tuple #[(NV.mk 4 none 0 0 none 0 0 none 0 0 C n d C' n d').val, .string tz, .int .i64 0]) ?_ ?_ ?_
  · exact results_not3 Tryz.results32 rfl (HD.out.1.ext ((Ext.refl _).alloc (.cells #[.slice C n d, .slice C' n d'] 31)))
  · rfl
  · exact (HD.out.2.ext ((Ext.refl _).alloc (.cells #[.slice C n d, .slice C' n d'] 31)))
set_option maxHeartbeats 4000000 in
theorem from4zs (A : Option Addr) (n c : Nat) (p : List Int) (w : World) (hI : Ints w A n p) (hv : vpat p = true) (hn : 9 ≤ n ∧ n ≤ 12) : Calls Tryz.prog 32 #[.slice A n c, .int .i64 4] w (RetCs w (⟨4, [], [], [], [], []⟩, tz, 5)) := by
  have HR0 : Hid (Six ((w.alloc (.cells #[.int .i64 0, .slice none 0 0, .slice none 0 0, .slice none 0 0, .slice none 0 0, .slice none 0 0] 33)).alloc (.cells #[.int .i64 4, .slice none 0 0, .slice none 0 0, .slice none 0 0, .slice none 0 0, .slice none 0 0] 33)) w.heap.size) := (Six.new w _ _ _ _ _ _ _).ext ((Ext.refl _).alloc _)
  have HB0 : Hid (NBox ((w.alloc (.cells #[.int .i64 0, .slice none 0 0, .slice none 0 0, .slice none 0 0, .slice none 0 0, .slice none 0 0] 33)).alloc (.cells #[.int .i64 4, .slice none 0 0, .slice none 0 0, .slice none 0 0, .slice none 0 0, .slice none 0 0] 33)) (w.heap.size + 1) (NV.mk 4 none 0 0 none 0 0 none 0 0 none 0 0 none 0 0)) := by
    have := NBox.new (w.alloc (.cells #[.int .i64 0, .slice none 0 0, .slice none 0 0, .slice none 0 0, .slice none 0 0, .slice none 0 0] 33)) (NV.mk 4 none 0 0 none 0 0 none 0 0 none 0 0 none 0 0)
    rw [show (w.alloc (.cells #[.int .i64 0, .slice none 0 0, .slice none 0 0, .slice none 0 0, .slice none 0 0, .slice none 0 0] 33)).heap.size = w.heap.size + 1 by simp] at this
    exact this
  have HS0 : Hid (Six ((w.alloc (.cells #[.int .i64 0, .slice none 0 0, .slice none 0 0, .slice none 0 0, .slice none 0 0, .slice none 0 0] 33)).alloc (.cells #[.int .i64 4, .slice none 0 0, .slice none 0 0, .slice none 0 0, .slice none 0 0, .slice none 0 0] 33)) (w.heap.size + 1)) := by
    have := Six.new (w.alloc (.cells #[.int .i64 0, .slice none 0 0, .slice none 0 0, .slice none 0 0, .slice none 0 0, .slice none 0 0] 33)) (.int .i64 4) (.slice none 0 0) (.slice none 0 0) (.slice none 0 0) (.slice none 0 0) (.slice none 0 0) 33
    rw [show (w.alloc (.cells #[.int .i64 0, .slice none 0 0, .slice none 0 0, .slice none 0 0, .slice none 0 0, .slice none 0 0] 33)).heap.size = w.heap.size + 1 by simp] at this
    exact this
  have E0 : Ext w ((w.alloc (.cells #[.int .i64 0, .slice none 0 0, .slice none 0 0, .slice none 0 0, .slice none 0 0, .slice none 0 0] 33)).alloc (.cells #[.int .i64 4, .slice none 0 0, .slice none 0 0, .slice none 0 0, .slice none 0 0, .slice none 0 0] 33)) := ((Ext.refl _).alloc _).alloc _
  go_enter Tryz.func32, Tryz.ntmps32
  go_wp2_with fail
  (with_reducible refine (TogetherOf_full A n c p _ (hI.ext E0) hn hv).mono ?_)
  rintro e w4 ⟨rfl, hx4⟩
  have E4 := E0.trans hx4
  have hz4 := hx4.size
  (try simp at hz4)
  have HR4 := Lib.hid (HR0.out.ext hx4)
  obtain ⟨y0, x0⟩ := HR4.out.c 0 (by omega)
  obtain ⟨y1, x1⟩ := HR4.out.c 1 (by omega)
  obtain ⟨y2, x2⟩ := HR4.out.c 2 (by omega)
  obtain ⟨y3, x3⟩ := HR4.out.c 3 (by omega)
  obtain ⟨y4, x4⟩ := HR4.out.c 4 (by omega)
  obtain ⟨y5, x5⟩ := HR4.out.c 5 (by omega)
  have xf := HR4.out.f
  have xl := HR4.out.lt
  obtain ⟨lb, m0, m1, m2, m3, m4, m5⟩ := HB0.out.ext hx4
  dsimp only at m0 m1 m2 m3 m4 m5
  have mf := (HS0.out.ext hx4).f
  have HD := Lib.hid (cn_doneS (w := w) (W := (w4.setCell ⟨w.heap.size + 1, 4, none⟩ (.slice none 0 0)).setCell ⟨w.heap.size + 1, 5, none⟩ (.slice none 0 0)) (g := w.heap.size) (V := (NV.mk 4 none 0 0 none 0 0 none 0 0 none 0 0 none 0 0)) (D := ⟨4, [], [], [], [], []⟩) (lo := w.heap.size + 2) (hi := w4.heap.size) ⟨fun _ => ⟨rfl, rfl⟩, fun h => by first | exact ⟨rfl, rfl⟩ | exact absurd (show n = 0 from h) (by omega)⟩ ((HR4.out.set _ _).set _ _) ⟨rfl, w.heap.size + 2, w.heap.size + 2, w.heap.size + 2, w.heap.size + 2, w.heap.size + 2, w.heap.size + 2, w.heap.size + 2, w4.heap.size, ⟨by omega, by omega, by omega, by omega, by omega, by omega, by omega, by omega, by omega, by omega⟩, .inr ⟨rfl, rfl⟩, .inr ⟨rfl, rfl⟩, .inr ⟨rfl, rfl⟩, .inr ⟨rfl, rfl, rfl, rfl⟩⟩ (Nat.le_refl _) (by omega) (by simp [World.setCell]) ((E4.set (by show w.heap.size ≤ w.heap.size + 1; omega) _).set (by show w.heap.size ≤ w.heap.size + 1; omega) _) tz 5)
  skip
  go_wp2
  refine bodyPost_ret (v := .tuple #[(NV.mk 4 none 0 0 none 0 0 none 0 0 none 0 0 none 0 0).val, .string tz, .int .i64 5]) ?_ ?_ ?_
  · exact results_not3 Tryz.results32 rfl (HD.out.1.ext ((Ext.refl _).alloc (.cells #[.slice none 0 0, .slice none 0 0] 31)))
  · rfl
  · exact (HD.out.2.ext ((Ext.refl _).alloc (.cells #[.slice none 0 0, .slice none 0 0] 31)))
/-- A drawn pattern becomes a notation of a kind. -/
theorem from_any (q : Int) (hq : 1 ≤ q ∧ q ≤ 4) (A : Option Addr) (n c : Nat) (p : List Int) (lo : Nat) (w : World) (hR : Row w lo w.heap.size 2 1 A n c p) (hlo : lo ≤ w.heap.size) (hv : vpat p = true) :
    Calls Tryz.prog 32 #[.slice A n c, .int .i64 q] w fun e w' => ∃ (V : NV) (D : ND) (s : ByteArray) (r : Int), e = .returned (.tuple #[V.val, .string s, .int .i64 r]) ∧ NtO w' lo w'.heap.size V D ∧ D.Sm ∧ D.Bd ∧ Ext w w' ∧ Stg V := by
  have hl := vpat_len hv
  have hn : p.length = n := by have := hR.len; omega
  have hI : Ints w A n p := by
    have := hR.ints (by omega) (vpat_bd hv)
    rwa [Nat.mul_one] at this
  rcases (by omega : q = 1 ∨ q = 2 ∨ q = 3 ∨ q = 4) with rfl | rfl | rfl | rfl
  · refine (from1 A n c w).mono ?_
    rintro e w' ⟨rfl, hx⟩
    exact ⟨_, _, _, _, rfl, nto_pat ((hR.ext hx).wide (Nat.le_refl _) hx.size) (by have := hx.size; omega), (pat_ok hv).1, (pat_ok hv).2.1, hx, fun h => absurd (show n = 0 from h) (by omega), fun _ => ⟨rfl, rfl⟩⟩
  · refine (from2s A n c p w hI (by omega)).mono ?_
    rintro e w' ⟨V, rfl, hN, hx, hst⟩
    exact ⟨V, _, _, _, rfl, hN.wide hlo (Nat.le_refl _), (mul_ok (vmul_wrp hv)).1, (mul_ok (vmul_wrp hv)).2.1, hx, hst⟩
  · refine (from3s A n c p w hI hv).mono ?_
    rintro e w' ⟨V, rfl, hN, hx, hst⟩
    have h1 := pup_len p
    exact ⟨V, _, _, _, rfl, hN.wide hlo (Nat.le_refl _), ⟨Nat.zero_le _, Nat.zero_le _, fun i hi => absurd hi (by simp), by show (pup p).1.length ≤ _; omega, Nat.zero_le _, Nat.zero_le _⟩, ⟨by simp, bdL_nil⟩, hx, hst⟩
  · by_cases h8 : n ≤ 8
    · refine (from4s A n c p w hI hv (by omega)).mono ?_
      rintro e w' ⟨V, rfl, hN, hx, hst⟩
      have h1 := sf_len p
      exact ⟨V, _, _, _, rfl, hN.wide hlo (Nat.le_refl _), ⟨Nat.zero_le _, Nat.zero_le _, fun i hi => absurd hi (by simp), Nat.zero_le _, by show (sf p).length ≤ _; omega, by show (sf p).length ≤ _; omega⟩, ⟨by simp, bdL_nil⟩, hx, hst⟩
    · refine (from4zs A n c p w hI hv (by omega)).mono ?_
      rintro e w' ⟨V, rfl, hN, hx, hst⟩
      exact ⟨V, _, _, _, rfl, hN.wide hlo (Nat.le_refl _), ⟨Nat.zero_le _, Nat.zero_le _, fun i hi => absurd hi (by simp), Nat.zero_le _, Nat.zero_le _, Nat.zero_le _⟩, ⟨by simp, bdL_nil⟩, hx, hst⟩
set_option maxHeartbeats 16000000 in
set_option maxRecDepth 100000 in
theorem l07Draw_any (w0 w : World) (g : Nat) (A : Option Addr) (n c : Nat) (xs : List Int) (top : Nat) (h : Srd w0 w g A n c xs top) (ht : top ≤ 300000000) :
    Calls Tryz.prog 41 #[.pointer (some ⟨g, 0, none⟩)] w (DrawnNt w0 w g A n c xs (top + 1000)) := by
  have hlt := h.lt
  have hS0 := h.after ((Ext.refl w).alloc (.cells #[.int .i64 0, .slice none 0 0, .slice none 0 0, .slice none 0 0, .slice none 0 0, .slice none 0 0] 33))
  have hG0 := grown_new (World.grownBy.refl w (some g)) (.cells #[.int .i64 0, .slice none 0 0, .slice none 0 0, .slice none 0 0, .slice none 0 0, .slice none 0 0] 33)
  have HX0 : Hid (Six (w.alloc (.cells #[.int .i64 0, .slice none 0 0, .slice none 0 0, .slice none 0 0, .slice none 0 0, .slice none 0 0] 33)) w.heap.size) := Six.new w _ _ _ _ _ _ _
  go_enter Tryz.func41, Tryz.ntmps41
  go_wp2_with fail
  (with_reducible refine (pick_any 5 w0 _ g A n c xs top hS0 (by omega)).mono ?_)
  rintro e w1 ⟨x, rfl, hx, hs1, hg1⟩
  have HX1 : Hid (Six w1 w.heap.size) := HX0.out.grown hg1 (by omega)
  have hG1 := grown_trans hG0 hg1
  have hz1 : w.heap.size < w1.heap.size := HX1.out.lt
  clear hS0 hG0 HX0 hg1
  rcases (by omega : x = 0 ∨ x = 1 ∨ x = 2 ∨ x = 3 ∨ x = 4) with rfl | rfl | rfl | rfl | rfl
  · skip
    go_wp2_with fail
    (with_reducible refine (pick_any 5 w0 _ g A n c xs _ hs1 (by omega)).mono ?_)
    rintro e w2 ⟨y, rfl, hy, hs2, hg2⟩
    have HX2 : Hid (Six w2 w.heap.size) := HX1.out.grown hg2 (by omega)
    have hG2 := grown_trans hG1 hg2
    have hzz2 := hg2.size
    obtain ⟨N, hN⟩ : ∃ N : Nat, 1 + y = N := ⟨(1 + y).toNat, by omega⟩
    go_wp2_with fail
    (with_reducible refine (l04Draw_any N (by omega) w0 _ g A n c xs _ hs2 (by omega)).mono ?_)
    rintro e w3 ⟨C, M, f, K, rfl, hM, hr3, hv3, hs3, hg3⟩
    have HX3 : Hid (Six w3 w.heap.size) := HX2.out.grown hg3 (by omega)
    have hG3 := grown_trans hG2 hg3
    have hzz3 := hg3.size
    have HOK := mul_ok (k := 2) hv3
    obtain ⟨y0, x0⟩ := HX3.out.c 0 (by omega)
    obtain ⟨y1, x1⟩ := HX3.out.c 1 (by omega)
    obtain ⟨y2, x2⟩ := HX3.out.c 2 (by omega)
    obtain ⟨y3, x3⟩ := HX3.out.c 3 (by omega)
    obtain ⟨y4, x4⟩ := HX3.out.c 4 (by omega)
    obtain ⟨y5, x5⟩ := HX3.out.c 5 (by omega)
    have xf := HX3.out.f
    have xl := HX3.out.lt
    have HD := Lib.hid (drn_done (w := w) (top := top + 1000) HX3.out (V := NV.mk 2 none 0 0 C M f none 0 0 none 0 0 none 0 0) (nto_mul hr3 hzz3) (by omega) (by omega) HOK ⟨fun h => by first | exact ⟨rfl, rfl⟩ | exact absurd (show mz = 0 from h) (by omega), fun h => by first | exact ⟨rfl, rfl⟩ | exact absurd (show M = 0 from h) (by omega)⟩ hlt (hs3.more (by omega)) hG3)
    go_wp2
    refine bodyPost_ret (v := NV.val (NV.mk 2 none 0 0 C M f none 0 0 none 0 0 none 0 0)) ?_ ?_ ?_
    · exact results_not Tryz.results41 rfl HD.out.1
    · rfl
    · exact HD.out.2
  · skip
    go_wp2_with fail
    (with_reducible refine (l05Draw_any w0 _ g A n c xs _ hs1 (by omega)).mono ?_)
    rintro e w2 ⟨C, M, f, ts, rfl, hM, hr2, hv2, hs2, hg2⟩
    have HX2 : Hid (Six w2 w.heap.size) := HX1.out.grown hg2 (by omega)
    have hG2 := grown_trans hG1 hg2
    have hzz2 := hg2.size
    have hlt2 := hr2.len
    have HOK := syn_ok (k := 3) (ts := ts) (by omega)
    obtain ⟨y0, x0⟩ := HX2.out.c 0 (by omega)
    obtain ⟨y1, x1⟩ := HX2.out.c 1 (by omega)
    obtain ⟨y2, x2⟩ := HX2.out.c 2 (by omega)
    obtain ⟨y3, x3⟩ := HX2.out.c 3 (by omega)
    obtain ⟨y4, x4⟩ := HX2.out.c 4 (by omega)
    obtain ⟨y5, x5⟩ := HX2.out.c 5 (by omega)
    have xf := HX2.out.f
    have xl := HX2.out.lt
    have HD := Lib.hid (drn_done (w := w) (top := top + 1000) HX2.out (V := NV.mk 3 none 0 0 none 0 0 C M f none 0 0 none 0 0) (nto_syn hr2 hzz2) (by omega) (by omega) HOK ⟨fun h => by first | exact ⟨rfl, rfl⟩ | exact absurd (show mz = 0 from h) (by omega), fun h => by first | exact ⟨rfl, rfl⟩ | exact absurd (show M = 0 from h) (by omega)⟩ hlt (hs2.more (by omega)) hG2)
    go_wp2
    refine bodyPost_ret (v := NV.val (NV.mk 3 none 0 0 none 0 0 C M f none 0 0 none 0 0)) ?_ ?_ ?_
    · exact results_not Tryz.results41 rfl HD.out.1
    · rfl
    · exact HD.out.2
  · skip
    go_wp2_with fail
    (with_reducible refine (l06Draw_any w0 _ g A n c xs _ hs1 (by omega)).mono ?_)
    rintro e w2 ⟨M, C, f, B, d, ts, us, rfl, hM, hr2, hs2, hg2⟩
    have HX2 : Hid (Six w2 w.heap.size) := HX1.out.grown hg2 (by omega)
    have hG2 := grown_trans hG1 hg2
    have hzz2 := hg2.size
    have hlt2 := hr2.a.len
    have hlt3 := hr2.b.len
    have HOK := pas_ok (k := 4) (ts := ts) (us := us) (by omega) (by omega)
    obtain ⟨y0, x0⟩ := HX2.out.c 0 (by omega)
    obtain ⟨y1, x1⟩ := HX2.out.c 1 (by omega)
    obtain ⟨y2, x2⟩ := HX2.out.c 2 (by omega)
    obtain ⟨y3, x3⟩ := HX2.out.c 3 (by omega)
    obtain ⟨y4, x4⟩ := HX2.out.c 4 (by omega)
    obtain ⟨y5, x5⟩ := HX2.out.c 5 (by omega)
    have xf := HX2.out.f
    have xl := HX2.out.lt
    have HD := Lib.hid (drn_done (w := w) (top := top + 1000) HX2.out (V := NV.mk 4 none 0 0 none 0 0 none 0 0 C M f B M d) (nto_pas hr2 hzz2) (by omega) (by omega) HOK ⟨fun h => by first | exact ⟨rfl, rfl⟩ | exact absurd (show mz = 0 from h) (by omega), fun h => by first | exact ⟨rfl, rfl⟩ | exact absurd (show M = 0 from h) (by omega)⟩ hlt (hs2.more (by omega)) hG2)
    go_wp2
    refine bodyPost_ret (v := NV.val (NV.mk 4 none 0 0 none 0 0 none 0 0 C M f B M d)) ?_ ?_ ?_
    · exact results_not Tryz.results41 rfl HD.out.1
    · rfl
    · exact HD.out.2
  · skip
    go_wp2_with fail
    (with_reducible refine (l05Draw_any w0 _ g A n c xs _ hs1 (by omega)).mono ?_)
    rintro e w2 ⟨C, M, f, ts, rfl, hM, hr2, hv2, hs2, hg2⟩
    have HX2 : Hid (Six w2 w.heap.size) := HX1.out.grown hg2 (by omega)
    have hG2 := grown_trans hG1 hg2
    have hzz2 := hg2.size
    have hsy : Syn w2 C M ts := hr2.syn (by omega)
    have hts := hr2.len
    go_wp2_with fail
    (with_reducible refine (specSlideSync_any C M f ts _ hsy hv2).mono ?_)
    rintro e w3 ⟨Ap, cp, rfl, hop⟩
    have hvp : vpat (sld ts (2 * M)) = true := vsyn_sld hts hv2
    generalize sld ts (2 * M) = p at *
    have hzz3 := hop.ext.size
    have HX3 : Hid (Six w3 w.heap.size) := HX2.out.ext hop.ext
    have hG3 := grown_exts hG2 hop.ext
    have hs3 := hs2.after hop.ext
    have hrp : Row w3 w2.heap.size w3.heap.size 2 1 Ap p.length cp p := OwnR.row (w := w2) (w' := w3) ⟨hop.own, hop.ext⟩
    clear hop hr2 hv2 hsy hs2 hts
    go_wp2_with fail
    (with_reducible refine (pick_any 4 w0 _ g A n c xs _ hs3 (by omega)).mono ?_)
    rintro e w4 ⟨y, rfl, hy, hs4, hg4⟩
    have HX4 : Hid (Six w4 w.heap.size) := HX3.out.grown hg4 (by omega)
    have hG4 := grown_trans hG3 hg4
    have hzz4 := hg4.size
    have hq : 1 ≤ 1 + y ∧ 1 + y ≤ 4 := by omega
    have hrp4 : Row w4 w2.heap.size w4.heap.size 2 1 Ap p.length cp p := (hrp.held (kept_src hg4) (.inr (by omega))).wide (Nat.le_refl _) hzz4
    clear hrp hs3 hg4 hG3
    go_wp2_with fail
    (with_reducible refine (from_any (1 + y) hq Ap p.length cp p w2.heap.size _ hrp4 (by omega) hvp).mono ?_)
    rintro e w5 ⟨V, D, s, r, rfl, hN5, hSm, hBd, hx5, hst⟩
    have hzz5 := hx5.size
    have HX5 : Hid (Six w5 w.heap.size) := HX4.out.ext hx5
    have hG5 := grown_exts hG4 hx5
    have hs5 := hs4.after hx5
    clear hrp4 hs4 hG4 hx5 hvp
    have HR5 := Lib.hid (hN5.read hSm hBd)
    have HN5 := Lib.hid hN5
    clear hN5
    obtain ⟨k, Ak, na, ca, Bk, nb, cb, Sk, ns, cs, Pk, np, cpp, Qk, nq, cq⟩ := V
    unfold NV.val
    dsimp only at *
    have HNB : Hid (NBox (w5.alloc (.cells #[.int .i64 k, .slice Ak na ca, .slice Bk nb cb, .slice Sk ns cs, .slice Pk np cpp, .slice Qk nq cq] 33)) w5.heap.size ⟨k, Ak, na, ca, Bk, nb, cb, Sk, ns, cs, Pk, np, cpp, Qk, nq, cq⟩) := NBox.new w5 ⟨k, Ak, na, ca, Bk, nb, cb, Sk, ns, cs, Pk, np, cpp, Qk, nq, cq⟩
    have HXA : Hid (Ext w5 (w5.alloc (.cells #[.int .i64 k, .slice Ak na ca, .slice Bk nb cb, .slice Sk ns cs, .slice Pk np cpp, .slice Qk nq cq] 33))) := (Ext.refl _).alloc _
    cases hvn : vnt D
    · have HVN := Lib.hid hvn
      clear hvn
      go_wp2_with fail
      (with_reducible refine (l07Ok_is w5.heap.size ⟨k, Ak, na, ca, Bk, nb, cb, Sk, ns, cs, Pk, np, cpp, Qk, nq, cq⟩ D false HVN.out _ HNB.out (HR5.out.ext HXA.out)).mono ?_)
      rintro e w6 ⟨rfl, hx6⟩
      have HE6 : Hid (Ext w5 w6) := HXA.out.trans hx6
      have hzz6 := HE6.out.size
      have HX6 : Hid (Six w6 w.heap.size) := HX5.out.ext HE6.out
      have hG6 := grown_exts hG5 HE6.out
      have hs6 := hs5.after HE6.out
      clear hx6 HXA HNB HR5 HN5 hs5 hG5 HX5 hSm hBd HVN hst
      go_wp2_with fail
      (with_reducible refine (l02Draw7_any w0 _ g A n c xs _ hs6 (by omega)).mono ?_)
      rintro e w7 ⟨Bz, mz, dz, yz, rfl, hoz, hmz, hvz, hs7, hg7⟩
      have HX7 : Hid (Six w7 w.heap.size) := HX6.out.grown hg7 (by omega)
      have hG7 := grown_trans hG6 hg7
      have hzz7 := hg7.size
      have HOK := pat_ok (k := 1) hvz
      obtain ⟨y0, x0⟩ := HX7.out.c 0 (by omega)
      obtain ⟨y1, x1⟩ := HX7.out.c 1 (by omega)
      obtain ⟨y2, x2⟩ := HX7.out.c 2 (by omega)
      obtain ⟨y3, x3⟩ := HX7.out.c 3 (by omega)
      obtain ⟨y4, x4⟩ := HX7.out.c 4 (by omega)
      obtain ⟨y5, x5⟩ := HX7.out.c 5 (by omega)
      have xf := HX7.out.f
      have xl := HX7.out.lt
      have HD := Lib.hid (drn_done (w := w) (top := top + 1000) HX7.out (V := NV.mk 1 Bz mz dz none 0 0 none 0 0 none 0 0 none 0 0) (nto_pat ⟨hoz, fun a ha => (World.ownsRow.lt hoz a.block (by rw [ha]; rfl)).2⟩ hzz7) (by omega) (by omega) HOK ⟨fun h => by first | exact ⟨rfl, rfl⟩ | exact absurd (show mz = 0 from h) (by omega), fun h => by first | exact ⟨rfl, rfl⟩ | exact absurd (show M = 0 from h) (by omega)⟩ hlt (hs7.more (by omega)) hG7)
      go_wp2
      refine bodyPost_ret (v := NV.val (NV.mk 1 Bz mz dz none 0 0 none 0 0 none 0 0 none 0 0)) ?_ ?_ ?_
      · exact results_not Tryz.results41 rfl HD.out.1
      · rfl
      · exact HD.out.2
    · have HVN := Lib.hid hvn
      clear hvn
      go_wp2_with fail
      (with_reducible refine (l07Ok_is w5.heap.size ⟨k, Ak, na, ca, Bk, nb, cb, Sk, ns, cs, Pk, np, cpp, Qk, nq, cq⟩ D true HVN.out _ HNB.out (HR5.out.ext HXA.out)).mono ?_)
      rintro e w6 ⟨rfl, hx6⟩
      have HE6 : Hid (Ext w5 w6) := HXA.out.trans hx6
      have hzz6 := HE6.out.size
      have HX6 : Hid (Six w6 w.heap.size) := HX5.out.ext HE6.out
      have hG6 := grown_exts hG5 HE6.out
      have hs6 := hs5.after HE6.out
      have HNB6 : Hid (NBox w6 w5.heap.size _) := HNB.out.ext hx6
      have HN6 := HN5.out.ext HE6.out
      have heven := HN6.even
      have HOK : D.Sm ∧ D.Bd ∧ Cpb D := ⟨hSm, hBd, vnt_cpb HVN.out heven⟩
      clear hx6 HXA HNB HR5 HN5 hs5 hG5 HX5 heven
      obtain ⟨z0, c0, c1, c2, c3, c4, c5⟩ := HNB6.out
      dsimp only at c0 c1 c2 c3 c4 c5
      have HN7 : NtO w6 w2.heap.size w5.heap.size _ D := HN6
      clear HN6
      obtain ⟨y0, x0⟩ := HX6.out.c 0 (by omega)
      obtain ⟨y1, x1⟩ := HX6.out.c 1 (by omega)
      obtain ⟨y2, x2⟩ := HX6.out.c 2 (by omega)
      obtain ⟨y3, x3⟩ := HX6.out.c 3 (by omega)
      obtain ⟨y4, x4⟩ := HX6.out.c 4 (by omega)
      obtain ⟨y5, x5⟩ := HX6.out.c 5 (by omega)
      have xf := HX6.out.f
      have xl := HX6.out.lt
      have HD := Lib.hid (drn_done (w := w) (top := top + 1000) HX6.out (V := NV.mk k Ak na ca Bk nb cb Sk ns cs Pk np cpp Qk nq cq) HN7 (by omega) (by omega) HOK hst hlt (hs6.more (by omega)) hG6)
      go_wp2
      refine bodyPost_ret (v := NV.val (NV.mk k Ak na ca Bk nb cb Sk ns cs Pk np cpp Qk nq cq)) ?_ ?_ ?_
      · exact results_not Tryz.results41 rfl HD.out.1
      · rfl
      · exact HD.out.2
  · skip
    go_wp2_with fail
    (with_reducible refine (l02Draw7_any w0 _ g A n c xs _ hs1 (by omega)).mono ?_)
    rintro e w2 ⟨Bz, mz, dz, yz, rfl, hoz, hmz, hvz, hs2, hg2⟩
    have HX2 : Hid (Six w2 w.heap.size) := HX1.out.grown hg2 (by omega)
    have hG2 := grown_trans hG1 hg2
    have hzz2 := hg2.size
    have HOK := pat_ok (k := 1) hvz
    obtain ⟨y0, x0⟩ := HX2.out.c 0 (by omega)
    obtain ⟨y1, x1⟩ := HX2.out.c 1 (by omega)
    obtain ⟨y2, x2⟩ := HX2.out.c 2 (by omega)
    obtain ⟨y3, x3⟩ := HX2.out.c 3 (by omega)
    obtain ⟨y4, x4⟩ := HX2.out.c 4 (by omega)
    obtain ⟨y5, x5⟩ := HX2.out.c 5 (by omega)
    have xf := HX2.out.f
    have xl := HX2.out.lt
    have HD := Lib.hid (drn_done (w := w) (top := top + 1000) HX2.out (V := NV.mk 1 Bz mz dz none 0 0 none 0 0 none 0 0 none 0 0) (nto_pat ⟨hoz, fun a ha => (World.ownsRow.lt hoz a.block (by rw [ha]; rfl)).2⟩ hzz2) (by omega) (by omega) HOK ⟨fun h => by first | exact ⟨rfl, rfl⟩ | exact absurd (show mz = 0 from h) (by omega), fun h => by first | exact ⟨rfl, rfl⟩ | exact absurd (show M = 0 from h) (by omega)⟩ hlt (hs2.more (by omega)) hG2)
    go_wp2
    refine bodyPost_ret (v := NV.val (NV.mk 1 Bz mz dz none 0 0 none 0 0 none 0 0 none 0 0)) ?_ ?_ ?_
    · exact results_not Tryz.results41 rfl HD.out.1
    · rfl
    · exact HD.out.2
end Go.Proofs.YtbihbhdaenhdoaaGreat

namespace Go.Proofs.YtbihbhdaenhdoaaGreat
set_option linter.unusedVariables false
set_option linter.unusedSimpArgs false
open Go.ChangeShapes Go.WideShapes Go.ChangeAt Go.RowKit Go.Joins Go.Deep

/-- The parts of a notation lie at lo or behind it, and not in the block b. -/
structure NtP (W : World) (lo b : Nat) (V : NV) (D : ND) : Prop where
  k : V.k = D.k
  p : ∃ l h, lo ≤ l ∧ (h ≤ b ∨ b < l) ∧ RowW W l h V.A V.na V.ca D.p
  m : ∃ l h, lo ≤ l ∧ (h ≤ b ∨ b < l) ∧ LRowW W l h V.B V.nb V.cb D.m
  s : ∃ l h, lo ≤ l ∧ (h ≤ b ∨ b < l) ∧ RowSW W l h V.S V.ns V.cs D.s
  a : ∃ l h, lo ≤ l ∧ (h ≤ b ∨ b < l) ∧ (RowT W l h V.P V.np V.cp D.a ∨ (V.np = 0 ∧ D.a = []))
  q : ∃ l h, lo ≤ l ∧ (h ≤ b ∨ b < l) ∧ (RowT W l h V.Q V.nq V.cq D.b ∨ (V.nq = 0 ∧ D.b = []))
section
variable {W W' : World} {lo hi b : Nat} {V : NV} {D : ND}
theorem NtP.held (h : NtP W lo b V D) {x y : Nat} (k : Kept x y W W') (hr : y ≤ lo ∨ (x = b ∧ y = b + 1)) : NtP W' lo b V D := by
  obtain ⟨l1, h1, a1, b1, r1⟩ := h.p
  obtain ⟨l2, h2, a2, b2, r2⟩ := h.m
  obtain ⟨l3, h3, a3, b3, r3⟩ := h.s
  obtain ⟨l4, h4, a4, b4, r4⟩ := h.a
  obtain ⟨l5, h5, a5, b5, r5⟩ := h.q
  exact ⟨h.k, ⟨l1, h1, a1, b1, r1.held k (by omega)⟩, ⟨l2, h2, a2, b2, r2.held k (by omega)⟩, ⟨l3, h3, a3, b3, r3.held k (by omega)⟩, ⟨l4, h4, a4, b4, r4.imp (fun r => r.held k (by omega)) id⟩, ⟨l5, h5, a5, b5, r5.imp (fun r => r.held k (by omega)) id⟩⟩
theorem NtP.read (h : NtP W lo b V D) (hs : D.Sm) (hb : D.Bd) : NtR W V D := by
  obtain ⟨l1, h1, a1, b1, r1⟩ := h.p
  obtain ⟨l2, h2, a2, b2, r2⟩ := h.m
  obtain ⟨l3, h3, a3, b3, r3⟩ := h.s
  obtain ⟨l4, h4, a4, b4, r4⟩ := h.a
  obtain ⟨l5, h5, a5, b5, r5⟩ := h.q
  obtain ⟨s0, s1, s2, s3, s4, s5⟩ := hs
  have e1 := r1.len
  have e2 := r2.len
  have e3 := r3.len
  refine ⟨h.k, r1.ints (by omega) hb.p, r2.lists (by omega) hb.m, r3.syn (by omega), ?_, ?_⟩
  · rcases r4 with r | ⟨r, e⟩
    · have := r.len
      exact r.thr (by omega)
    · rw [r, e]
      exact Thr.nil _ _
  · rcases r5 with r | ⟨r, e⟩
    · have := r.len
      exact r.thr (by omega)
    · rw [r, e]
      exact Thr.nil _ _
theorem pass_a {l h : Nat} {A B : Option Addr} {n c m d : Nat} {ts us : List (Int × Bool)} (r : PassRW W l h A n c B m d ts us) : (RowT W l h A n c ts ∨ (n = 0 ∧ ts = [])) ∧ (RowT W l h B m d us ∨ (m = 0 ∧ us = [])) := by
  rcases r with r | ⟨e1, e2, e3, e4⟩
  · exact ⟨.inl r.a, .inl r.b⟩
  · exact ⟨.inr ⟨e1, e3⟩, .inr ⟨e2, e4⟩⟩
theorem ntp_of (h : NtO W lo hi V D) (hb : hi ≤ b) : NtP W lo b V D := by
  obtain ⟨l0, h0, l1, h1, l2, h2, l3, h3, ⟨b0, b1, b2, b3, -⟩, r0, r1, r2, r3⟩ := h.own
  exact ⟨h.k, ⟨l0, h0, b0.1, .inl (by omega), r0⟩, ⟨l1, h1, b1.1, .inl (by omega), r1⟩, ⟨l2, h2, b2.1, .inl (by omega), r2⟩, ⟨l3, h3, b3.1, .inl (by omega), (pass_a r3).1⟩, ⟨l3, h3, b3.1, .inl (by omega), (pass_a r3).2⟩⟩
theorem own_tight {e : TypeId} {m g n c : Nat} {cs : List Value} (h : W.ownsRow lo e m (.slice (some ⟨g, 0, none⟩) n c) n cs) : W.ownsRow g e m (.slice (some ⟨g, 0, none⟩) n c) n cs := by
  refine ⟨h.1, ?_⟩
  rcases h.2 with ⟨h0, _⟩ | ⟨g', cap, cur, ev, hb, rest⟩
  · cases h0
  · cases ev
    exact .inr ⟨g, c, cur, rfl, Nat.le_refl _, rest⟩
theorem own_none {e : TypeId} {m : Nat} : W.ownsRow lo e m (.slice none 0 0) 0 [] := ⟨by simp, .inl ⟨rfl, rfl⟩⟩
/-- Another number behind the pattern. -/
theorem app_p (h : NtO W lo hi V D) (hst : Stg V) (hb : hi ≤ b) (hbW : b < W.heap.size) (hlo : lo ≤ W.heap.size) (hlb : lo ≤ b) :
    ∃ l0 h0, lo ≤ l0 ∧ h0 ≤ b ∧ l0 ≤ W.heap.size ∧ W.ownsRow l0 2 1 (.slice V.A V.na V.ca) V.na (D.p.map (Value.int .i64)) ∧
      ∀ (g5 c5 : Nat) (w5 : World), w5.ownsRow l0 2 1 (.slice (some ⟨g5, 0, none⟩) (V.na + 1) c5) (V.na + 1) (D.p.map (Value.int .i64) ++ [.int .i64 3]) → W.grownBy w5 (Value.slice V.A V.na V.ca).ownBlock → ((Value.slice V.A V.na V.ca).ownBlock = some g5 ∨ g5 = W.heap.size) →
        Kept l0 h0 W w5 ∧ (∀ g, (Value.slice V.A V.na V.ca).ownBlock = some g → l0 ≤ g) ∧ NtP w5 lo b ⟨V.k, some ⟨g5, 0, none⟩, V.na + 1, c5, V.B, V.nb, V.cb, V.S, V.ns, V.cs, V.P, V.np, V.cp, V.Q, V.nq, V.cq⟩ ⟨D.k, D.p ++ [3], D.m, D.s, D.a, D.b⟩ := by
  obtain ⟨l0, h0, l1, h1, l2, h2, l3, h3, ⟨b0, b1, b2, b3, a01, a02, a03, a12, a13, a23⟩, r0, r1, r2, r3⟩ := h.own
  have key : ∀ x y, lo ≤ x → y ≤ b → x ≤ W.heap.size → (h1 ≤ x ∨ y ≤ l1) → (h2 ≤ x ∨ y ≤ l2) → (h3 ≤ x ∨ y ≤ l3) → W.ownsRow x 2 1 (.slice V.A V.na V.ca) V.na (D.p.map (Value.int .i64)) → (∀ g, (Value.slice V.A V.na V.ca).ownBlock = some g → x ≤ g ∧ g < y) →
      ∃ l0 h0, lo ≤ l0 ∧ h0 ≤ b ∧ l0 ≤ W.heap.size ∧ W.ownsRow l0 2 1 (.slice V.A V.na V.ca) V.na (D.p.map (Value.int .i64)) ∧
      ∀ (g5 c5 : Nat) (w5 : World), w5.ownsRow l0 2 1 (.slice (some ⟨g5, 0, none⟩) (V.na + 1) c5) (V.na + 1) (D.p.map (Value.int .i64) ++ [.int .i64 3]) → W.grownBy w5 (Value.slice V.A V.na V.ca).ownBlock → ((Value.slice V.A V.na V.ca).ownBlock = some g5 ∨ g5 = W.heap.size) →
        Kept l0 h0 W w5 ∧ (∀ g, (Value.slice V.A V.na V.ca).ownBlock = some g → l0 ≤ g) ∧ NtP w5 lo b ⟨V.k, some ⟨g5, 0, none⟩, V.na + 1, c5, V.B, V.nb, V.cb, V.S, V.ns, V.cs, V.P, V.np, V.cp, V.Q, V.nq, V.cq⟩ ⟨D.k, D.p ++ [3], D.m, D.s, D.a, D.b⟩ := by
    intro x y e1 e2 e3 e4 e5 e6 ho hbk
    refine ⟨x, y, e1, e2, e3, ho, fun g5 c5 w5 ho5 hg5 hat => ?_⟩
    have hK : Kept x y W w5 := Kept.of_grown hg5 hbk
    have hl5 := World.ownsRow.lt ho5 g5 rfl
    refine ⟨hK, fun g hg => (hbk g hg).1, h.k, ⟨g5, g5 + 1, by omega, ?_, .inl ⟨by simpa using own_tight ho5, fun a ha => by cases ha; exact Nat.lt_succ_self _⟩⟩, ⟨l1, h1, b1.1, .inl (by omega), r1.held hK (by omega)⟩, ⟨l2, h2, b2.1, .inl (by omega), r2.held hK (by omega)⟩, ⟨l3, h3, b3.1, .inl (by omega), (pass_a (r3.held hK (by omega))).1⟩, ⟨l3, h3, b3.1, .inl (by omega), (pass_a (r3.held hK (by omega))).2⟩⟩
    rcases hat with e | e
    · have := hbk g5 e; omega
    · omega
  by_cases hz : V.na = 0
  · obtain ⟨z1, z2⟩ := hst.1 hz
    have hp : D.p = [] := List.eq_nil_of_length_eq_zero (by have := r0.len; omega)
    refine key lo lo (Nat.le_refl _) (by omega) hlo (by omega) (by omega) (by omega) ?_ (fun g hg => ?_)
    · rw [z1, hz, z2, hp]
      exact own_none
    · rw [z1] at hg
      cases hg
  · rcases r0 with r | ⟨r, _⟩
    · have hg0 : ∀ g, (Value.slice V.A V.na V.ca).ownBlock = some g → l0 ≤ g ∧ g < h0 := fun g hg => by
        have := World.ownsRow.lt r.own g hg
        refine ⟨this.1, ?_⟩
        cases hA : V.A with
        | none => rw [hA] at hg; cases hg
        | some ad =>
          have h5 := r.top ad hA
          rw [hA] at hg
          cases hg
          exact h5
      obtain ⟨g1, c1, hv1, hg1a, hg1b⟩ := World.ownsRow.form r.own (by omega)
      exact key l0 h0 b0.1 (by omega) (by omega) (by omega) (by omega) (by omega) r.own hg0
    · exact absurd r hz
/-- Another throw behind those of the first juggler. -/
theorem app_a (h : NtO W lo hi V D) (hst : Stg V) (hb : hi ≤ b) (hbW : b < W.heap.size) (hlo : lo ≤ W.heap.size) (hlb : lo ≤ b) :
    ∃ l0 h0 cs, lo ≤ l0 ∧ h0 ≤ b ∧ l0 ≤ W.heap.size ∧ W.ownsRow l0 86 2 (.slice V.P V.np V.cp) V.np cs ∧
      ∀ (g5 c5 : Nat) (w5 : World), w5.ownsRow l0 86 2 (.slice (some ⟨g5, 0, none⟩) (V.np + 1) c5) (V.np + 1) (cs ++ [.int .i64 3, .bool false]) → W.grownBy w5 (Value.slice V.P V.np V.cp).ownBlock → ((Value.slice V.P V.np V.cp).ownBlock = some g5 ∨ g5 = W.heap.size) →
        Kept l0 h0 W w5 ∧ (∀ g, (Value.slice V.P V.np V.cp).ownBlock = some g → l0 ≤ g) ∧ NtP w5 lo b ⟨V.k, V.A, V.na, V.ca, V.B, V.nb, V.cb, V.S, V.ns, V.cs, some ⟨g5, 0, none⟩, V.np + 1, c5, V.Q, V.nq, V.cq⟩ ⟨D.k, D.p, D.m, D.s, D.a ++ [(3, false)], D.b⟩ := by
  obtain ⟨l0, h0, l1, h1, l2, h2, l3, h3, ⟨b0, b1, b2, b3, a01, a02, a03, a12, a13, a23⟩, r0, r1, r2, r3⟩ := h.own
  have key : ∀ x y cs, lo ≤ x → y ≤ b → x ≤ W.heap.size → (h0 ≤ x ∨ y ≤ l0) → (h1 ≤ x ∨ y ≤ l1) → (h2 ≤ x ∨ y ≤ l2) → (∀ w5, W.grownBy w5 (Value.slice V.P V.np V.cp).ownBlock → ∃ l h, lo ≤ l ∧ (h ≤ b ∨ b < l) ∧ (RowT w5 l h V.Q V.nq V.cq D.b ∨ (V.nq = 0 ∧ D.b = []))) → D.a.length = V.np → cs.length = V.np * 2 → (∀ i, i < V.np → cs[i * 2]? = some (.int .i64 (tv D.a i)) ∧ cs[i * 2 + 1]? = some (.bool (tp D.a i))) → W.ownsRow x 86 2 (.slice V.P V.np V.cp) V.np cs → (∀ g, (Value.slice V.P V.np V.cp).ownBlock = some g → x ≤ g ∧ g < y) →
      ∃ l0 h0 cs, lo ≤ l0 ∧ h0 ≤ b ∧ l0 ≤ W.heap.size ∧ W.ownsRow l0 86 2 (.slice V.P V.np V.cp) V.np cs ∧
      ∀ (g5 c5 : Nat) (w5 : World), w5.ownsRow l0 86 2 (.slice (some ⟨g5, 0, none⟩) (V.np + 1) c5) (V.np + 1) (cs ++ [.int .i64 3, .bool false]) → W.grownBy w5 (Value.slice V.P V.np V.cp).ownBlock → ((Value.slice V.P V.np V.cp).ownBlock = some g5 ∨ g5 = W.heap.size) →
        Kept l0 h0 W w5 ∧ (∀ g, (Value.slice V.P V.np V.cp).ownBlock = some g → l0 ≤ g) ∧ NtP w5 lo b ⟨V.k, V.A, V.na, V.ca, V.B, V.nb, V.cb, V.S, V.ns, V.cs, some ⟨g5, 0, none⟩, V.np + 1, c5, V.Q, V.nq, V.cq⟩ ⟨D.k, D.p, D.m, D.s, D.a ++ [(3, false)], D.b⟩ := by
    intro x y cs e1 e2 e3 e4 e5 e6 hQ hla hlc hcs ho hbk
    refine ⟨x, y, cs, e1, e2, e3, ho, fun g5 c5 w5 ho5 hg5 hat => ?_⟩
    have hK : Kept x y W w5 := Kept.of_grown hg5 hbk
    have hl5 := World.ownsRow.lt ho5 g5 rfl
    refine ⟨hK, fun g hg => (hbk g hg).1, h.k, ⟨l0, h0, b0.1, .inl (by omega), r0.held hK (by omega)⟩, ⟨l1, h1, b1.1, .inl (by omega), r1.held hK (by omega)⟩, ⟨l2, h2, b2.1, .inl (by omega), r2.held hK (by omega)⟩, ⟨g5, g5 + 1, by omega, ?_, .inl ⟨by simp [hla], _, ⟨own_tight ho5, fun a ha => by cases ha; exact Nat.lt_succ_self _⟩, fun i hi => ?_⟩⟩, hQ w5 hg5⟩
    · rcases hat with e | e
      · have := hbk g5 e; omega
      · omega
    · by_cases hin : i < V.np
      · obtain ⟨q1, q2⟩ := hcs i hin
        rw [List.getElem?_append_left (by omega), List.getElem?_append_left (by omega), q1, q2]
        unfold tv tp
        rw [List.getElem?_append_left (by omega)]
        exact ⟨rfl, rfl⟩
      · have hi' : i < V.np + 1 := hi
        obtain rfl : i = V.np := by omega
        rw [List.getElem?_append_right (by omega), List.getElem?_append_right (by omega), hlc, show V.np * 2 - V.np * 2 = 0 by omega, show V.np * 2 + 1 - V.np * 2 = 1 by omega]
        unfold tv tp
        rw [List.getElem?_append_right (by omega), hla, Nat.sub_self]
        exact ⟨rfl, rfl⟩
  by_cases hz : V.np = 0
  · obtain ⟨z1, z2⟩ := hst.2 hz
    have hp : D.a = [] := List.eq_nil_of_length_eq_zero (by have := r3.lens.1; omega)
    refine key lo lo [] (Nat.le_refl _) (by omega) hlo (by omega) (by omega) (by omega) (fun w5 hg5 => ?_) (by rw [hp, hz]; rfl) (by rw [hz]; rfl) (fun i hi => absurd hi (by omega)) ?_ (fun g hg => ?_)
    · have hK : Kept lo lo W w5 := Kept.of_grown hg5 (fun g hg => by rw [z1] at hg; cases hg)
      exact ⟨l3, h3, b3.1, .inl (by omega), (pass_a (r3.held hK (by omega))).2⟩
    · rw [z1, hz, z2]
      exact own_none
    · rw [z1] at hg
      cases hg
  · rcases r3 with r | ⟨r, _⟩
    · obtain ⟨cs, hr, hc⟩ := r.a.row
      have hg0 : ∀ g, (Value.slice V.P V.np V.cp).ownBlock = some g → l3 ≤ g ∧ g < h3 := fun g hg => by
        have := World.ownsRow.lt hr.own g hg
        refine ⟨this.1, ?_⟩
        cases hA : V.P with
        | none => rw [hA] at hg; cases hg
        | some ad =>
          have h5 := hr.top ad hA
          rw [hA] at hg
          cases hg
          exact h5
      obtain ⟨g1, c1, hv1, hg1a, hg1b⟩ := World.ownsRow.form hr.own (by omega)
      refine key l3 h3 cs b3.1 (by omega) (by omega) (by omega) (by omega) (by omega) (fun w5 hg5 => ⟨l3, h3, b3.1, .inl (by omega), .inl (r.b.beside hg5 (fun g hg => ?_))⟩) r.a.len hr.len hc hr.own hg0
      cases hA : V.P with
      | none => rw [hA] at hg; cases hg
      | some ad =>
        rw [hA] at hg
        cases hg
        exact r.ne _ (by rw [hA]; rfl)
    · exact absurd r hz
end
/-- 'append(out, x)' in a plain region: the new row is in the old block or in a new one. -/
theorem appX {lo : Nat} {e : TypeId} {m bytes : Nat} {W : World} {v : Value} {n : Nat} {cs ys : List Value} {ops : Array Oper} {rest : List Oper} {o : Oper} {a : Act} {Q : Exit → Act → World → Prop} (hI : ElG Tryz.prog e m bytes) (hm : 0 < m ∧ bytes ≤ 512) (hgd : o.guard = none) (s x : Operand) {t : TypeId} (ht : Tryz.prog.underlying t = some (.slice e))
    (ho : o.op = .call { callee := .builtin .append, args := #[s, x], argTypes := #[t, t] }) (hs : a.eval s = v) (hown : W.ownsRow lo e m v n cs) (hlo : lo ≤ W.heap.size) (hn : n ≤ 2000000) {B : Nat}
    (hx : a.eval x = .slice (some ⟨B, 0, none⟩) 1 1) {ar : Array Value} {t' : TypeId} {fr : Nat × Nat} (hB : W.heap[B]? = some (.cells ar t' fr)) (hc : ar.toList = ys) (hl : ys.length = m) (h1 : ∀ u ∈ ys, u.oneCell' = true)
    (h : ∀ g c w', w'.ownsRow lo e m (.slice (some ⟨g, 0, none⟩) (n + 1) c) (n + 1) (cs ++ ys) → W.grownBy w' v.ownBlock → (v.ownBlock = some g ∨ g = W.heap.size) → wpList Tryz.prog ops Q rest (a.put o.dst (.slice (some ⟨g, 0, none⟩) (n + 1) c)) w') :
    wpList Tryz.prog ops Q (o :: rest) a W := by
  obtain ⟨i, z, hi, hz0, hz1, hz2, hz3⟩ := hI
  refine wpList_append_lies W hgd s x t ho lo e i z m bytes ht hi hz0 hz1 hz2 hz3 hm.1 v n _ hs hown ⟨B, 0, none⟩ 1 1 ys hx (by rw [hl, Nat.one_mul]) (newsG hB hc) h1 (by omega) (by unfold maxLen; omega) ?_ hlo W.heap.size rfl ?_
  · exact Nat.le_trans (Nat.mul_le_mul (show n + 1 ≤ 2000001 by omega) hm.2) (by omega)
  · intro g cap w' ho' hg hat _
    exact h _ _ _ ho' hg hat
theorem elIntG : ElG Tryz.prog 2 1 8 := elG infoInt rfl
theorem Six.held {w w' : World} {g lo hi : Nat} (h : Six w g) (k : Kept lo hi w w') (hr : g < lo ∨ hi ≤ g) : Six w' g :=
  ⟨Nat.lt_of_lt_of_le h.lt k.size, fun i hi' => by obtain ⟨u, hu⟩ := h.c i hi'; exact ⟨u, (World.cell?_of_block (k.block g h.lt hr)).trans hu⟩, fun i => (World.frozen?_of_block (k.block g h.lt hr)).trans (h.f i)⟩
theorem NBox.grown {w w' : World} {g b : Nat} {V : NV} (h : NBox w b V) (k : w.grownBy w' (some g)) (hne : b ≠ g) : NBox w' b V := h.held (kept_src k) (by omega)
theorem nto_len {W : World} {lo hi : Nat} {V : NV} {D : ND} (h : NtO W lo hi V D) (hs : D.Sm) : V.na ≤ 1048576 ∧ V.np ≤ 1048576 := by
  obtain ⟨l0, h0, l1, h1, l2, h2, l3, h3, -, r0, r1, r2, r3⟩ := h.own
  have e1 := r0.len
  have e2 := r3.lens.1
  have e3 := hs.p
  have e4 := hs.a
  omega
/-- A notation that is read, drawn. -/
def DrawnRd (w0 w : World) (g : Nat) (A : Option Addr) (n c : Nat) (xs : List Int) (top : Nat) (e : Ending) (w' : World) : Prop :=
  ∃ (V : NV) (D : ND) (b : Nat), e = .returned V.val ∧ NtP w' (w.heap.size + 1) b V D ∧ D.Sm ∧ D.Bd ∧ D.s.length % 2 = 0 ∧ Srd w0 w' g A n c xs top ∧ w.grownBy w' (some g)
theorem bnt_done {w0 w W : World} {g n c top b : Nat} {A : Option Addr} {xs : List Int} {V : NV} {D : ND} (hs : Six W w.heap.size) (h : NtP W (w.heap.size + 1) b V D) (hD : D.Sm ∧ D.Bd ∧ D.s.length % 2 = 0) (hg : g < w.heap.size) (hS : Srd w0 W g A n c xs top) (hG : w.grownBy W (some g)) :
    NBox (sto W w.heap.size V) w.heap.size V ∧ DrawnRd w0 w g A n c xs top (.returned V.val) (sto W w.heap.size V) := by
  exact ⟨sto_box hs V, V, D, b, rfl, h.held (sto_kept W w.heap.size V) (.inl (Nat.le_refl _)), hD.1, hD.2.1, hD.2.2, sto_srd hS hg V, sto_grown hG (Nat.le_refl _) V⟩
theorem nt_sm3 {D : ND} (hs : D.Sm) (hb : D.Bd) (hc : Cpb D) : (⟨D.k, D.p ++ [3], D.m, D.s, D.a, D.b⟩ : ND).Sm ∧ (⟨D.k, D.p ++ [3], D.m, D.s, D.a, D.b⟩ : ND).Bd :=
  ⟨⟨by have := hc.p; show (D.p ++ [3]).length ≤ _; simp; omega, hs.m, hs.l, hs.s, hs.a, hs.b⟩, ⟨fun y hy => by
    rcases List.mem_append.1 hy with e | e
    · exact hb.p y e
    · simp at e; omega, hb.m⟩⟩
theorem nt_sma {D : ND} (hs : D.Sm) (hb : D.Bd) (hc : Cpb D) : (⟨D.k, D.p, D.m, D.s, D.a ++ [(3, false)], D.b⟩ : ND).Sm ∧ (⟨D.k, D.p, D.m, D.s, D.a ++ [(3, false)], D.b⟩ : ND).Bd :=
  ⟨⟨hs.p, hs.m, hs.l, hs.s, by have := hc.r; show (D.a ++ [(3, false)]).length ≤ _; simp; omega, hs.b⟩, ⟨hb.p, hb.m⟩⟩
set_option maxHeartbeats 16000000 in
set_option maxRecDepth 100000 in
theorem l07Bent_any (w0 w : World) (g : Nat) (A : Option Addr) (n c : Nat) (xs : List Int) (top : Nat) (h : Srd w0 w g A n c xs top) (ht : top ≤ 200000000) :
    Calls Tryz.prog 19 #[.pointer (some ⟨g, 0, none⟩)] w (DrawnRd w0 w g A n c xs (top + 1100)) := by
  have hlt := h.lt
  have hS0 := h.after ((Ext.refl w).alloc (.cells #[.int .i64 0, .slice none 0 0, .slice none 0 0, .slice none 0 0, .slice none 0 0, .slice none 0 0] 33))
  have hG0 := grown_new (World.grownBy.refl w (some g)) (.cells #[.int .i64 0, .slice none 0 0, .slice none 0 0, .slice none 0 0, .slice none 0 0, .slice none 0 0] 33)
  have HX0 : Hid (Six (w.alloc (.cells #[.int .i64 0, .slice none 0 0, .slice none 0 0, .slice none 0 0, .slice none 0 0, .slice none 0 0] 33)) w.heap.size) := Six.new w _ _ _ _ _ _ _
  go_enter Tryz.func19, Tryz.ntmps19
  go_wp2_with fail
  (with_reducible refine (l07Draw_any w0 _ g A n c xs top hS0 (by omega)).mono ?_)
  rintro e w1 ⟨V, D, rfl, hN1, ⟨hSm, hBd, hCp⟩, hst, hs1, hg1⟩
  have HX1 : Hid (Six w1 w.heap.size) := HX0.out.grown hg1 (by omega)
  have hG1 := grown_trans hG0 hg1
  have hz1 : w.heap.size + 1 ≤ w1.heap.size := HX1.out.lt
  have heven := hN1.even
  have hnl := nto_len hN1 hSm
  have HN1 : Hid (NtO w1 (w.heap.size + 1) w1.heap.size V D) := hN1.wide (by simp) (Nat.le_refl _)
  clear hS0 hG0 HX0 hg1 hN1
  have HST := Lib.hid hst
  have HSB : Hid (D.Sm ∧ D.Bd ∧ Cpb D) := ⟨hSm, hBd, hCp⟩
  have HEV := Lib.hid heven
  clear hst hSm hBd hCp heven
  obtain ⟨k, Ak, na, ca, Bk, nb, cb, Sk, ns, cs, Pk, np, cpp, Qk, nq, cq⟩ := V
  unfold NV.val
  dsimp only at *
  have HNB : Hid (NBox (w1.alloc (.cells #[.int .i64 k, .slice Ak na ca, .slice Bk nb cb, .slice Sk ns cs, .slice Pk np cpp, .slice Qk nq cq] 33)) w1.heap.size ⟨k, Ak, na, ca, Bk, nb, cb, Sk, ns, cs, Pk, np, cpp, Qk, nq, cq⟩) := NBox.new w1 ⟨k, Ak, na, ca, Bk, nb, cb, Sk, ns, cs, Pk, np, cpp, Qk, nq, cq⟩
  have HSX : Hid (Six (w1.alloc (.cells #[.int .i64 k, .slice Ak na ca, .slice Bk nb cb, .slice Sk ns cs, .slice Pk np cpp, .slice Qk nq cq] 33)) w1.heap.size) := Six.new w1 _ _ _ _ _ _ _
  have hXA : Ext w1 (w1.alloc (.cells #[.int .i64 k, .slice Ak na ca, .slice Bk nb cb, .slice Sk ns cs, .slice Pk np cpp, .slice Qk nq cq] 33)) := (Ext.refl _).alloc _
  have HXA : Hid (Six (w1.alloc (.cells #[.int .i64 k, .slice Ak na ca, .slice Bk nb cb, .slice Sk ns cs, .slice Pk np cpp, .slice Qk nq cq] 33)) w.heap.size) := HX1.out.ext hXA
  have HNA : Hid (NtO (w1.alloc (.cells #[.int .i64 k, .slice Ak na ca, .slice Bk nb cb, .slice Sk ns cs, .slice Pk np cpp, .slice Qk nq cq] 33)) (w.heap.size + 1) w1.heap.size ⟨k, Ak, na, ca, Bk, nb, cb, Sk, ns, cs, Pk, np, cpp, Qk, nq, cq⟩ D) := HN1.out.ext hXA
  have hsA := hs1.after hXA
  have hGA := grown_exts hG1 hXA
  clear HX1 HN1 hs1 hG1 hXA
  go_wp2_with fail
  (with_reducible refine (pick_any 20 w0 _ g A n c xs _ hsA (by omega)).mono ?_)
  rintro e w2 ⟨x, rfl, hx, hs2, hg2⟩
  have HNB2 : Hid (NBox w2 w1.heap.size _) := HNB.out.grown hg2 (by omega)
  have HSX2 : Hid (Six w2 w1.heap.size) := HSX.out.grown hg2 (by omega)
  have HX2 : Hid (Six w2 w.heap.size) := HXA.out.grown hg2 (by omega)
  have HN2 : Hid (NtO w2 (w.heap.size + 1) w1.heap.size ⟨k, Ak, na, ca, Bk, nb, cb, Sk, ns, cs, Pk, np, cpp, Qk, nq, cq⟩ D) := HNA.out.held (kept_src hg2) (.inr (by omega))
  have hG2 := grown_trans hGA hg2
  have hz2 : w1.heap.size < w2.heap.size := HNB2.out.lt
  clear HNB HSX HXA HNA hsA hGA hg2
  by_cases h0 : x = 0
  · subst h0
    go_wp2_with fail
    (with_reducible refine (pick_any 7 w0 _ g A n c xs _ hs2 (by omega)).mono ?_)
    rintro e w3 ⟨y, rfl, hy, hs3, hg3⟩
    have HNB3 : Hid (NBox w3 w1.heap.size _) := HNB2.out.grown hg3 (by omega)
    have HSX3 : Hid (Six w3 w1.heap.size) := HSX2.out.grown hg3 (by omega)
    have HX3 : Hid (Six w3 w.heap.size) := HX2.out.grown hg3 (by omega)
    have HN3 : Hid (NtO w3 (w.heap.size + 1) w1.heap.size ⟨k, Ak, na, ca, Bk, nb, cb, Sk, ns, cs, Pk, np, cpp, Qk, nq, cq⟩ D) := HN2.out.held (kept_src hg3) (.inr (by omega))
    have hG3 := grown_trans hG2 hg3
    have hz3 : w1.heap.size < w3.heap.size := HNB3.out.lt
    clear HNB2 HSX2 HX2 HN2 hs2 hG2 hg3
    have ey : IntKind.i64.wrap (y - 1) = y - 1 := IntWalk.i64_in _ (by omega)
    obtain ⟨z0, c0, c1, c2, c3, c4, c5⟩ := HNB3.out
    dsimp only at c0 c1 c2 c3 c4 c5
    have cf := HSX3.out.f
    obtain ⟨y0, x0⟩ := HX3.out.c 0 (by omega)
    obtain ⟨y1, x1⟩ := HX3.out.c 1 (by omega)
    obtain ⟨y2, x2⟩ := HX3.out.c 2 (by omega)
    obtain ⟨y3, x3⟩ := HX3.out.c 3 (by omega)
    obtain ⟨y4, x4⟩ := HX3.out.c 4 (by omega)
    obtain ⟨y5, x5⟩ := HX3.out.c 5 (by omega)
    have xf := HX3.out.f
    have xl := HX3.out.lt
    have HP3 : NtP w3 (w.heap.size + 1) w1.heap.size ⟨y - 1, Ak, na, ca, Bk, nb, cb, Sk, ns, cs, Pk, np, cpp, Qk, nq, cq⟩ ⟨y - 1, D.p, D.m, D.s, D.a, D.b⟩ := by
      have hp := ntp_of HN3.out (Nat.le_refl _)
      exact ⟨rfl, hp.p, hp.m, hp.s, hp.a, hp.q⟩
    have HOK : (⟨y - 1, D.p, D.m, D.s, D.a, D.b⟩ : ND).Sm ∧ (⟨y - 1, D.p, D.m, D.s, D.a, D.b⟩ : ND).Bd ∧ D.s.length % 2 = 0 := ⟨⟨HSB.out.1.p, HSB.out.1.m, HSB.out.1.l, HSB.out.1.s, HSB.out.1.a, HSB.out.1.b⟩, ⟨HSB.out.2.1.p, HSB.out.2.1.m⟩, HEV.out⟩
    have HD := Lib.hid (bnt_done (w := w) (top := top + 1100) (b := w1.heap.size) (HX3.out.set ⟨w1.heap.size, 0, none⟩ (.int .i64 (y - 1))) (V := ⟨y - 1, Ak, na, ca, Bk, nb, cb, Sk, ns, cs, Pk, np, cpp, Qk, nq, cq⟩) (D := ⟨y - 1, D.p, D.m, D.s, D.a, D.b⟩) (HP3.held (Kept.set (Kept.of_ext (Ext.refl _)) (p := ⟨w1.heap.size, 0, none⟩) (lo := w1.heap.size) (hi := w1.heap.size + 1) (by simp) _) (.inr ⟨rfl, rfl⟩)) HOK hlt ((hs3.put (p := ⟨w1.heap.size, 0, none⟩) (by show g < w1.heap.size; omega) _).more (by omega)) (grown_put hG3 (p := ⟨w1.heap.size, 0, none⟩) (by show w.heap.size ≤ w1.heap.size; omega) _))
    clear HP3 HOK HN3
    go_wp2
    refine bodyPost_ret (v := NV.val (⟨y - 1, Ak, na, ca, Bk, nb, cb, Sk, ns, cs, Pk, np, cpp, Qk, nq, cq⟩)) ?_ ?_ ?_
    · exact results_not Tryz.results19 rfl HD.out.1
    · rfl
    · exact HD.out.2
  by_cases h1 : x = 1
  · subst h1
    have hXB : Ext w2 (w2.alloc (.cells #[.int .i64 3] 2)) := (Ext.refl _).alloc _
    obtain ⟨l0, h0, ea, eb, ec, hown, happ⟩ := app_p (V := ⟨k, Ak, na, ca, Bk, nb, cb, Sk, ns, cs, Pk, np, cpp, Qk, nq, cq⟩) (HN2.out.ext hXB) HST.out (Nat.le_refl _) (b := w1.heap.size) (by simp; omega) (by simp; omega) hz1
    dsimp only at hown happ
    have HAP := Lib.hid happ
    have HNBb : Hid (NBox (w2.alloc (.cells #[.int .i64 3] 2)) w1.heap.size _) := HNB2.out.ext hXB
    have HSXb : Hid (Six (w2.alloc (.cells #[.int .i64 3] 2)) w1.heap.size) := HSX2.out.ext hXB
    have HXb : Hid (Six (w2.alloc (.cells #[.int .i64 3] 2)) w.heap.size) := HX2.out.ext hXB
    have hsb := hs2.after hXB
    have hGb := grown_exts hG2 hXB
    obtain ⟨z0, c0, c1, c2, c3, c4, c5⟩ := HNB2.out
    dsimp only at c0 c1 c2 c3 c4 c5
    have cf := HSX2.out.f
    obtain ⟨y0, x0⟩ := HX2.out.c 0 (by omega)
    obtain ⟨y1, x1⟩ := HX2.out.c 1 (by omega)
    obtain ⟨y2, x2⟩ := HX2.out.c 2 (by omega)
    obtain ⟨y3, x3⟩ := HX2.out.c 3 (by omega)
    obtain ⟨y4, x4⟩ := HX2.out.c 4 (by omega)
    obtain ⟨y5, x5⟩ := HX2.out.c 5 (by omega)
    have xf := HX2.out.f
    have xl := HX2.out.lt
    go_wp2_with (at_builtin; refine appX elIntG (by omega) rfl _ _ Tryz.underlying24 rfl rfl hown ec (by omega) rfl (heap_alloc_new _ _) (ys := [.int .i64 3]) (by rfl) (by rfl) (by simp [Value.oneCell']) ?_; intro g5 c6 w5 ho5 hg5 hat5; obtain ⟨hK, hK2, hP5⟩ := HAP.out g5 c6 w5 ho5 hg5 hat5; have HNB5 : Hid (NBox w5 w1.heap.size ⟨k, Ak, na, ca, Bk, nb, cb, Sk, ns, cs, Pk, np, cpp, Qk, nq, cq⟩) := HNBb.out.held hK (.inr eb); have HSX5 : Hid (Six w5 w1.heap.size) := HSXb.out.held hK (.inr eb); have HX5 : Hid (Six w5 w.heap.size) := HXb.out.held hK (.inl ea); obtain ⟨z0b, b0, b1, b2, b3, b4, b5⟩ := HNB5.out; dsimp only at b0 b1 b2 b3 b4 b5; have bf := HSX5.out.f; obtain ⟨y0b, a0⟩ := HX5.out.c 0 (by omega); obtain ⟨y1b, a1⟩ := HX5.out.c 1 (by omega); obtain ⟨y2b, a2⟩ := HX5.out.c 2 (by omega); obtain ⟨y3b, a3⟩ := HX5.out.c 3 (by omega); obtain ⟨y4b, a4⟩ := HX5.out.c 4 (by omega); obtain ⟨y5b, a5⟩ := HX5.out.c 5 (by omega); have af := HX5.out.f; have al := HX5.out.lt; have hs5 := hsb.own hg5 (fun q hq => by have := hK2 q hq; omega); have hG5 := grown_own hGb hg5 (fun q hq => by have := hK2 q hq; omega))
    have HD := Lib.hid (bnt_done (w := w) (top := top + 1100) (b := w1.heap.size) (HX5.out.set ⟨w1.heap.size, 1, none⟩ (.slice (some ⟨g5, 0, none⟩) (na + 1) c6)) (V := ⟨k, some ⟨g5, 0, none⟩, na + 1, c6, Bk, nb, cb, Sk, ns, cs, Pk, np, cpp, Qk, nq, cq⟩) (D := ⟨D.k, D.p ++ [3], D.m, D.s, D.a, D.b⟩) (hP5.held (Kept.set (Kept.of_ext (Ext.refl _)) (p := ⟨w1.heap.size, 1, none⟩) (lo := w1.heap.size) (hi := w1.heap.size + 1) (by simp) _) (.inr ⟨rfl, rfl⟩)) ⟨(nt_sm3 HSB.out.1 HSB.out.2.1 HSB.out.2.2).1, (nt_sm3 HSB.out.1 HSB.out.2.1 HSB.out.2.2).2, HEV.out⟩ hlt ((hs5.put (p := ⟨w1.heap.size, 1, none⟩) (by show g < w1.heap.size; omega) _).more (by omega)) (grown_put hG5 (p := ⟨w1.heap.size, 1, none⟩) (by show w.heap.size ≤ w1.heap.size; omega) _))
    refine bodyPost_ret (v := NV.val (⟨k, some ⟨g5, 0, none⟩, na + 1, c6, Bk, nb, cb, Sk, ns, cs, Pk, np, cpp, Qk, nq, cq⟩)) ?_ ?_ ?_
    · exact results_not Tryz.results19 rfl HD.out.1
    · rfl
    · exact HD.out.2
  by_cases h2 : x = 2
  · subst h2
    obtain ⟨z0, c0, c1, c2, c3, c4, c5⟩ := HNB2.out
    dsimp only at c0 c1 c2 c3 c4 c5
    have cf := HSX2.out.f
    obtain ⟨y0, x0⟩ := HX2.out.c 0 (by omega)
    obtain ⟨y1, x1⟩ := HX2.out.c 1 (by omega)
    obtain ⟨y2, x2⟩ := HX2.out.c 2 (by omega)
    obtain ⟨y3, x3⟩ := HX2.out.c 3 (by omega)
    obtain ⟨y4, x4⟩ := HX2.out.c 4 (by omega)
    obtain ⟨y5, x5⟩ := HX2.out.c 5 (by omega)
    have xf := HX2.out.f
    have xl := HX2.out.lt
    have HP3 : NtP w2 (w.heap.size + 1) w1.heap.size ⟨k, Ak, na, ca, Bk, nb, cb, Option.none, 0, 0, Pk, np, cpp, Qk, nq, cq⟩ ⟨D.k, D.p, D.m, [], D.a, D.b⟩ := by
      have hp := ntp_of HN2.out (Nat.le_refl _)
      exact ⟨hp.k, hp.p, hp.m, ⟨w.heap.size + 1, w.heap.size + 1, Nat.le_refl _, .inl hz1, .inr ⟨rfl, rfl⟩⟩, hp.a, hp.q⟩
    have HOK : (⟨D.k, D.p, D.m, [], D.a, D.b⟩ : ND).Sm ∧ (⟨D.k, D.p, D.m, [], D.a, D.b⟩ : ND).Bd ∧ ([] : List (Int × Bool)).length % 2 = 0 := ⟨⟨HSB.out.1.p, HSB.out.1.m, HSB.out.1.l, Nat.zero_le _, HSB.out.1.a, HSB.out.1.b⟩, ⟨HSB.out.2.1.p, HSB.out.2.1.m⟩, rfl⟩
    have HD := Lib.hid (bnt_done (w := w) (top := top + 1100) (b := w1.heap.size) (HX2.out.set ⟨w1.heap.size, 3, none⟩ (.slice none 0 0)) (V := ⟨k, Ak, na, ca, Bk, nb, cb, Option.none, 0, 0, Pk, np, cpp, Qk, nq, cq⟩) (D := ⟨D.k, D.p, D.m, [], D.a, D.b⟩) (HP3.held (Kept.set (Kept.of_ext (Ext.refl _)) (p := ⟨w1.heap.size, 3, none⟩) (lo := w1.heap.size) (hi := w1.heap.size + 1) (by simp) _) (.inr ⟨rfl, rfl⟩)) HOK hlt ((hs2.put (p := ⟨w1.heap.size, 3, none⟩) (by show g < w1.heap.size; omega) _).more (by omega)) (grown_put hG2 (p := ⟨w1.heap.size, 3, none⟩) (by show w.heap.size ≤ w1.heap.size; omega) _))
    clear HP3 HOK HN2
    go_wp2
    refine bodyPost_ret (v := NV.val (⟨k, Ak, na, ca, Bk, nb, cb, Option.none, 0, 0, Pk, np, cpp, Qk, nq, cq⟩)) ?_ ?_ ?_
    · exact results_not Tryz.results19 rfl HD.out.1
    · rfl
    · exact HD.out.2
  by_cases h3 : x = 3
  · subst h3
    have hXB : Ext w2 (w2.alloc (.cells #[.int .i64 3, .bool false] 86)) := (Ext.refl _).alloc _
    obtain ⟨l0, h0, cz, ea, eb, ec, hown, happ⟩ := app_a (V := ⟨k, Ak, na, ca, Bk, nb, cb, Sk, ns, cs, Pk, np, cpp, Qk, nq, cq⟩) (HN2.out.ext hXB) HST.out (Nat.le_refl _) (b := w1.heap.size) (by simp; omega) (by simp; omega) hz1
    dsimp only at hown happ
    have HAP := Lib.hid happ
    have HNBb : Hid (NBox (w2.alloc (.cells #[.int .i64 3, .bool false] 86)) w1.heap.size _) := HNB2.out.ext hXB
    have HSXb : Hid (Six (w2.alloc (.cells #[.int .i64 3, .bool false] 86)) w1.heap.size) := HSX2.out.ext hXB
    have HXb : Hid (Six (w2.alloc (.cells #[.int .i64 3, .bool false] 86)) w.heap.size) := HX2.out.ext hXB
    have hsb := hs2.after hXB
    have hGb := grown_exts hG2 hXB
    obtain ⟨z0, c0, c1, c2, c3, c4, c5⟩ := HNB2.out
    dsimp only at c0 c1 c2 c3 c4 c5
    have cf := HSX2.out.f
    obtain ⟨y0, x0⟩ := HX2.out.c 0 (by omega)
    obtain ⟨y1, x1⟩ := HX2.out.c 1 (by omega)
    obtain ⟨y2, x2⟩ := HX2.out.c 2 (by omega)
    obtain ⟨y3, x3⟩ := HX2.out.c 3 (by omega)
    obtain ⟨y4, x4⟩ := HX2.out.c 4 (by omega)
    obtain ⟨y5, x5⟩ := HX2.out.c 5 (by omega)
    have xf := HX2.out.f
    have xl := HX2.out.lt
    go_wp2_with (at_builtin; refine appX elThr (by omega) rfl _ _ Tryz.underlying29 rfl rfl hown ec (by omega) rfl (heap_alloc_new _ _) (ys := [.int .i64 3, .bool false]) (by rfl) (by rfl) (by simp [Value.oneCell']) ?_; intro g5 c6 w5 ho5 hg5 hat5; obtain ⟨hK, hK2, hP5⟩ := HAP.out g5 c6 w5 ho5 hg5 hat5; have HNB5 : Hid (NBox w5 w1.heap.size ⟨k, Ak, na, ca, Bk, nb, cb, Sk, ns, cs, Pk, np, cpp, Qk, nq, cq⟩) := HNBb.out.held hK (.inr eb); have HSX5 : Hid (Six w5 w1.heap.size) := HSXb.out.held hK (.inr eb); have HX5 : Hid (Six w5 w.heap.size) := HXb.out.held hK (.inl ea); obtain ⟨z0b, b0, b1, b2, b3, b4, b5⟩ := HNB5.out; dsimp only at b0 b1 b2 b3 b4 b5; have bf := HSX5.out.f; obtain ⟨y0b, a0⟩ := HX5.out.c 0 (by omega); obtain ⟨y1b, a1⟩ := HX5.out.c 1 (by omega); obtain ⟨y2b, a2⟩ := HX5.out.c 2 (by omega); obtain ⟨y3b, a3⟩ := HX5.out.c 3 (by omega); obtain ⟨y4b, a4⟩ := HX5.out.c 4 (by omega); obtain ⟨y5b, a5⟩ := HX5.out.c 5 (by omega); have af := HX5.out.f; have al := HX5.out.lt; have hs5 := hsb.own hg5 (fun q hq => by have := hK2 q hq; omega); have hG5 := grown_own hGb hg5 (fun q hq => by have := hK2 q hq; omega))
    have HD := Lib.hid (bnt_done (w := w) (top := top + 1100) (b := w1.heap.size) (HX5.out.set ⟨w1.heap.size, 4, none⟩ (.slice (some ⟨g5, 0, none⟩) (np + 1) c6)) (V := ⟨k, Ak, na, ca, Bk, nb, cb, Sk, ns, cs, some ⟨g5, 0, none⟩, np + 1, c6, Qk, nq, cq⟩) (D := ⟨D.k, D.p, D.m, D.s, D.a ++ [(3, false)], D.b⟩) (hP5.held (Kept.set (Kept.of_ext (Ext.refl _)) (p := ⟨w1.heap.size, 4, none⟩) (lo := w1.heap.size) (hi := w1.heap.size + 1) (by simp) _) (.inr ⟨rfl, rfl⟩)) ⟨(nt_sma HSB.out.1 HSB.out.2.1 HSB.out.2.2).1, (nt_sma HSB.out.1 HSB.out.2.1 HSB.out.2.2).2, HEV.out⟩ hlt ((hs5.put (p := ⟨w1.heap.size, 4, none⟩) (by show g < w1.heap.size; omega) _).more (by omega)) (grown_put hG5 (p := ⟨w1.heap.size, 4, none⟩) (by show w.heap.size ≤ w1.heap.size; omega) _))
    refine bodyPost_ret (v := NV.val (⟨k, Ak, na, ca, Bk, nb, cb, Sk, ns, cs, some ⟨g5, 0, none⟩, np + 1, c6, Qk, nq, cq⟩)) ?_ ?_ ?_
    · exact results_not Tryz.results19 rfl HD.out.1
    · rfl
    · exact HD.out.2
  have b0 : (x == 0) = false := beq_eq_false_iff_ne.2 h0
  have b1 : (x == 1) = false := beq_eq_false_iff_ne.2 h1
  have b2 : (x == 2) = false := beq_eq_false_iff_ne.2 h2
  have b3 : (x == 3) = false := beq_eq_false_iff_ne.2 h3
  clear h0 h1 h2 h3
  obtain ⟨z0, c0, c1, c2, c3, c4, c5⟩ := HNB2.out
  dsimp only at c0 c1 c2 c3 c4 c5
  have cf := HSX2.out.f
  obtain ⟨y0, x0⟩ := HX2.out.c 0 (by omega)
  obtain ⟨y1, x1⟩ := HX2.out.c 1 (by omega)
  obtain ⟨y2, x2⟩ := HX2.out.c 2 (by omega)
  obtain ⟨y3, x3⟩ := HX2.out.c 3 (by omega)
  obtain ⟨y4, x4⟩ := HX2.out.c 4 (by omega)
  obtain ⟨y5, x5⟩ := HX2.out.c 5 (by omega)
  have xf := HX2.out.f
  have xl := HX2.out.lt
  have HD := Lib.hid (bnt_done (w := w) (top := top + 1100) (b := w1.heap.size) HX2.out (V := ⟨k, Ak, na, ca, Bk, nb, cb, Sk, ns, cs, Pk, np, cpp, Qk, nq, cq⟩) (D := D) (ntp_of HN2.out (Nat.le_refl _)) ⟨HSB.out.1, HSB.out.2.1, HEV.out⟩ hlt (hs2.more (by omega)) hG2)
  clear HN2
  go_wp2
  refine bodyPost_ret (v := NV.val (⟨k, Ak, na, ca, Bk, nb, cb, Sk, ns, cs, Pk, np, cpp, Qk, nq, cq⟩)) ?_ ?_ ?_
  · exact results_not Tryz.results19 rfl HD.out.1
  · rfl
  · exact HD.out.2
end Go.Proofs.YtbihbhdaenhdoaaGreat

namespace Go.Proofs.YtbihbhdaenhdoaaGreat
set_option linter.unusedVariables false
set_option linter.unusedSimpArgs false
open Go.ChangeShapes Go.WideShapes Go.ChangeAt Go.RowKit Go.Joins Go.Deep

/-- What is known of a drawn notation. -/
structure NtI (w w' : World) (V : NV) (D : ND) : Prop where
  x : Ext w w'
  r : NtR w' V D
  s : D.Sm
  b : D.Bd
  e : D.s.length % 2 = 0
theorem results_not2 {fn : Func} {t u : Tmp} (h : fn.results = #[.cell t 33, .tmp u]) {tmps : Array Value} {w : World} {g : Nat} {V : NV} (ht : tmps.getD t undef = .pointer (some ⟨g, 0, none⟩)) (hB : NBox w g V) :
    (results fn tmps).run Tryz.prog w = .ok (.tuple #[V.val, tmps.getD u undef]) w := by
  have ht2 : tmps[t]?.getD undef = .pointer (some ⟨g, 0, none⟩) := by simpa using ht
  simp [results, h, ht2, asAddr, loadVar_not hB]
theorem results_nots {fn : Func} {t u : Tmp} (h : fn.results = #[.cell t 33, .cell u 33]) {tmps : Array Value} {w : World} {g g' : Nat} {V U : NV} (ht : tmps.getD t undef = .pointer (some ⟨g, 0, none⟩)) (hu : tmps.getD u undef = .pointer (some ⟨g', 0, none⟩)) (hB : NBox w g V) (hC : NBox w g' U) :
    (results fn tmps).run Tryz.prog w = .ok (.tuple #[V.val, U.val]) w := by
  have ht2 : tmps[t]?.getD undef = .pointer (some ⟨g, 0, none⟩) := by simpa using ht
  have hu2 : tmps[u]?.getD undef = .pointer (some ⟨g', 0, none⟩) := by simpa using hu
  simp [results, h, ht2, hu2, asAddr, loadVar_not hB, loadVar_not hC]
theorem l07Copy_cpb (g : Nat) (V : NV) (D : ND) (w : World) (hB : NBox w g V) (hI : NtR w V D) (hC : Cpb D) : Calls Tryz.prog 30 #[.pointer (some ⟨g, 0, none⟩)] w (RetN w D) := by
  obtain ⟨k, A, na, ca, B, nb, cb, S, ns, cs, P, np, cp, Q, nq, cq⟩ := V
  obtain ⟨kk, dp, dm, ds, da, db⟩ := D
  obtain ⟨hk, hp, hm, hs, ha, hb⟩ := hI
  obtain ⟨c1, c2, c3, c4⟩ := hC
  dsimp only at *
  have lp := hp.len
  have lm := hm.len
  have ls := hs.len
  have la := ha.len
  have lb := hb.len
  subst hk
  rcases c4 with ⟨z1, z2, z3⟩ | ⟨z1, z2, z3⟩ | ⟨z1, z2, z3⟩
  · obtain rfl : ns = 0 := by omega
    obtain rfl : np = 0 := by omega
    obtain rfl : nq = 0 := by omega
    have e1 : ds = [] := List.eq_nil_of_length_eq_zero z1
    have e2 : da = [] := List.eq_nil_of_length_eq_zero z2
    have e3 : db = [] := List.eq_nil_of_length_eq_zero z3
    subst e1 e2 e3
    exact l07Copy_1 g k A B S P Q na ca nb cb cs cp cq w dp dm hp hm (by omega) (by omega) (fun i hi => c3 i (by omega)) hB
  · obtain rfl : np = 0 := by omega
    obtain rfl : nq = 0 := by omega
    have e2 : da = [] := List.eq_nil_of_length_eq_zero z2
    have e3 : db = [] := List.eq_nil_of_length_eq_zero z3
    subst e2 e3
    exact l07Copy_2 g k A B S P Q na ca nb cb cs cp cq w dp dm hp hm (by omega) (by omega) (fun i hi => c3 i (by omega)) ns ds hs (by omega) hB
  · obtain rfl : ns = 0 := by omega
    have e1 : ds = [] := List.eq_nil_of_length_eq_zero z1
    subst e1
    exact l07Copy_3 g k A B S P Q na ca nb cb cs cp cq w dp dm hp hm (by omega) (by omega) (fun i hi => c3 i (by omega)) np nq da db ha hb (by omega) (by omega) hB
set_option maxHeartbeats 8000000 in
theorem DrawNotationProps_any (A : Option Addr) (n c : Nat) (xs : List Int) (w : World) (hB : Byts w A n xs) :
    Calls Tryz.prog 8 #[.slice A n c] w fun e w' => ∃ (V : NV) (D : ND), e = .returned V.val ∧ NtI w w' V D := by
  have HX0 : Hid (Six (w.alloc (.cells #[.int .i64 0, .slice none 0 0, .slice none 0 0, .slice none 0 0, .slice none 0 0, .slice none 0 0] 33)) w.heap.size) := Six.new w _ _ _ _ _ _ _
  go_enter Tryz.func8, Tryz.ntmps8
  go_wp2_with fail
  (with_reducible refine (l00From_any A n c xs _ (hB.ext (by with_reducible (repeat (first | exact Ext.refl _ | apply Ext.drewN | apply Ext.drew | apply Ext.alloc | (refine Ext.set ?_ (by first | (simp; done) | (simp; omega) | omega) _) | (refine Ext.trans ?_ (by assumption))))))).mono ?_)
  rintro e w1 ⟨g, rfl, hs1, -⟩
  have hE1 : Ext w w1 := Ext.trans (by with_reducible (repeat (first | exact Ext.refl _ | apply Ext.drewN | apply Ext.drew | apply Ext.alloc | (refine Ext.set ?_ (by first | (simp; done) | (simp; omega) | omega) _) | (refine Ext.trans ?_ (by assumption))))) hs1.ext
  have HX1 : Hid (Six w1 w.heap.size) := HX0.out.ext hs1.ext
  have hz1 : w.heap.size < w1.heap.size := HX1.out.lt
  have hgw : w.heap.size ≠ g := by have := hs1.born; simp at this; omega
  go_wp2_with fail
  (with_reducible refine (l07Bent_any _ w1 g A n c xs 0 hs1 (by omega)).mono ?_)
  rintro e w2 ⟨V, D, b, rfl, hN, hSm, hBd, hev, hs2, hg2⟩
  have HX2 : Hid (Six w2 w.heap.size) := HX1.out.grown hg2 hgw
  have hE2 : Ext w w2 := Ext.trans (by with_reducible (repeat (first | exact Ext.refl _ | apply Ext.drewN | apply Ext.drew | apply Ext.alloc | (refine Ext.set ?_ (by first | (simp; done) | (simp; omega) | omega) _) | (refine Ext.trans ?_ (by assumption))))) hs2.ext
  have HD : Hid (NBox (sto w2 w.heap.size V) w.heap.size V ∧ NtI w (sto w2 w.heap.size V) V D) := ⟨sto_box HX2.out V, sto_ext hE2 (Nat.le_refl _) V, (hN.held (sto_kept w2 w.heap.size V) (.inl (by omega))).read hSm hBd, hSm, hBd, hev⟩
  clear hN hs1 hs2 hg2 hE1 hE2 HX0 HX1
  obtain ⟨k, Ak, na, ca, Bk, nb, cb, Sk, ns, cs, Pk, np, cpp, Qk, nq, cq⟩ := V
  unfold NV.val
  dsimp only at *
  obtain ⟨xv0, x0⟩ := HX2.out.c 0 (by omega)
  obtain ⟨xv1, x1⟩ := HX2.out.c 1 (by omega)
  obtain ⟨xv2, x2⟩ := HX2.out.c 2 (by omega)
  obtain ⟨xv3, x3⟩ := HX2.out.c 3 (by omega)
  obtain ⟨xv4, x4⟩ := HX2.out.c 4 (by omega)
  obtain ⟨xv5, x5⟩ := HX2.out.c 5 (by omega)
  have xf := HX2.out.f
  have xl := HX2.out.lt
  go_wp2
  refine bodyPost_ret (v := NV.val ⟨k, Ak, na, ca, Bk, nb, cb, Sk, ns, cs, Pk, np, cpp, Qk, nq, cq⟩) ?_ ?_ ?_
  · exact results_not Tryz.results8 rfl HD.out.1
  · rfl
  · exact ⟨_, _, rfl, HD.out.2⟩
set_option maxHeartbeats 16000000 in
set_option maxRecDepth 100000 in
theorem DrawConvertNotation_any (A : Option Addr) (n c : Nat) (xs : List Int) (w : World) (hB : Byts w A n xs) :
    Calls Tryz.prog 5 #[.slice A n c] w fun e w' => ∃ (V : NV) (D : ND) (q : Int), e = .returned (.tuple #[V.val, .int .i64 q]) ∧ NtI w w' V D := by
  have HX0 : Hid (Six (w.alloc (.cells #[.int .i64 0, .slice none 0 0, .slice none 0 0, .slice none 0 0, .slice none 0 0, .slice none 0 0] 33)) w.heap.size) := Six.new w _ _ _ _ _ _ _
  go_enter Tryz.func5, Tryz.ntmps5
  go_wp2_with fail
  (with_reducible refine (l00From_any A n c xs _ (hB.ext (by with_reducible (repeat (first | exact Ext.refl _ | apply Ext.drewN | apply Ext.drew | apply Ext.alloc | (refine Ext.set ?_ (by first | (simp; done) | (simp; omega) | omega) _) | (refine Ext.trans ?_ (by assumption))))))).mono ?_)
  rintro e w1 ⟨g, rfl, hs1, -⟩
  have HX1 : Hid (Six w1 w.heap.size) := HX0.out.ext hs1.ext
  have hz1 : w.heap.size < w1.heap.size := HX1.out.lt
  have hgw : w.heap.size ≠ g := by have := hs1.born; simp at this; omega
  have hE0 : Hid (Ext w (w.alloc (.cells #[.int .i64 0, .slice none 0 0, .slice none 0 0, .slice none 0 0, .slice none 0 0, .slice none 0 0] 33))) := (Ext.refl _).alloc _
  go_wp2_with fail
  (with_reducible refine (l07Bent_any _ w1 g A n c xs 0 hs1 (by omega)).mono ?_)
  rintro e w2 ⟨V, D, b, rfl, hN, hSm, hBd, hev, hs2, hg2⟩
  have HX2 : Hid (Six w2 w.heap.size) := HX1.out.grown hg2 hgw
  have hlt := hs1.lt
  have hz2 := hg2.size
  have HN2 := Lib.hid hN
  have HSB : Hid (D.Sm ∧ D.Bd ∧ D.s.length % 2 = 0) := ⟨hSm, hBd, hev⟩
  clear hN hs1 hg2 HX0 HX1 hSm hBd hev
  obtain ⟨k, Ak, na, ca, Bk, nb, cb, Sk, ns, cs, Pk, np, cpp, Qk, nq, cq⟩ := V
  unfold NV.val
  dsimp only at *
  have HNB : Hid (NBox (w2.alloc (.cells #[.int .i64 k, .slice Ak na ca, .slice Bk nb cb, .slice Sk ns cs, .slice Pk np cpp, .slice Qk nq cq] 33)) w2.heap.size ⟨k, Ak, na, ca, Bk, nb, cb, Sk, ns, cs, Pk, np, cpp, Qk, nq, cq⟩) := NBox.new w2 ⟨k, Ak, na, ca, Bk, nb, cb, Sk, ns, cs, Pk, np, cpp, Qk, nq, cq⟩
  have hXA : Ext w2 (w2.alloc (.cells #[.int .i64 k, .slice Ak na ca, .slice Bk nb cb, .slice Sk ns cs, .slice Pk np cpp, .slice Qk nq cq] 33)) := (Ext.refl _).alloc _
  have HX3 : Hid (Six (w2.alloc (.cells #[.int .i64 k, .slice Ak na ca, .slice Bk nb cb, .slice Sk ns cs, .slice Pk np cpp, .slice Qk nq cq] 33)) w.heap.size) := HX2.out.ext hXA
  have HN3 : Hid (NtP (w2.alloc (.cells #[.int .i64 k, .slice Ak na ca, .slice Bk nb cb, .slice Sk ns cs, .slice Pk np cpp, .slice Qk nq cq] 33)) (w1.heap.size + 1) b ⟨k, Ak, na, ca, Bk, nb, cb, Sk, ns, cs, Pk, np, cpp, Qk, nq, cq⟩ D) := HN2.out.held (Kept.of_ext hXA (lo := 0) (hi := 0)) (.inl (Nat.zero_le _))
  have HS3 := Lib.hid (hs2.after hXA)
  clear HX2 HN2 hs2 hXA
  go_upto_region 3 with fail
  obtain ⟨cz, c0, c1, c2, c3, c4, c5⟩ := HNB.out
  dsimp only at c0 c1 c2 c3 c4 c5
  obtain ⟨xv0, x0⟩ := HX3.out.c 0 (by omega)
  obtain ⟨xv1, x1⟩ := HX3.out.c 1 (by omega)
  obtain ⟨xv2, x2⟩ := HX3.out.c 2 (by omega)
  obtain ⟨xv3, x3⟩ := HX3.out.c 3 (by omega)
  obtain ⟨xv4, x4⟩ := HX3.out.c 4 (by omega)
  obtain ⟨xv5, x5⟩ := HX3.out.c 5 (by omega)
  have xf := HX3.out.f
  have xl := HX3.out.lt
  go_region_law (first | (go_simp; go_at_call 20; (with_reducible refine (pick_any 4 _ _ g A n c xs _ (HS3.out.after (by with_reducible (repeat (first | exact Ext.refl _ | apply Ext.drewN | apply Ext.drew | apply Ext.alloc | (refine Ext.set ?_ (by first | (simp; done) | (simp; omega) | omega) _) | (refine Ext.trans ?_ (by assumption)))))) (by omega)).mono ?_); rintro e w6 ⟨yw6, rfl, hyw6, hsw6, hgw6⟩; have HNBw6 : Hid (NBox w6 w2.heap.size ⟨k, Ak, na, ca, Bk, nb, cb, Sk, ns, cs, Pk, np, cpp, Qk, nq, cq⟩) := (HNB.out.ext (by with_reducible (repeat (first | exact Ext.refl _ | apply Ext.drewN | apply Ext.drew | apply Ext.alloc | (refine Ext.set ?_ (by first | (simp; done) | (simp; omega) | omega) _) | (refine Ext.trans ?_ (by assumption)))))).grown hgw6 (by omega); have HXw6 : Hid (Six w6 w.heap.size) := (HX3.out.ext (by with_reducible (repeat (first | exact Ext.refl _ | apply Ext.drewN | apply Ext.drew | apply Ext.alloc | (refine Ext.set ?_ (by first | (simp; done) | (simp; omega) | omega) _) | (refine Ext.trans ?_ (by assumption)))))).grown hgw6 hgw; have HNw6 : Hid (NtP w6 (w1.heap.size + 1) b ⟨k, Ak, na, ca, Bk, nb, cb, Sk, ns, cs, Pk, np, cpp, Qk, nq, cq⟩ D) := (HN3.out.held (Kept.of_ext (by with_reducible (repeat (first | exact Ext.refl _ | apply Ext.drewN | apply Ext.drew | apply Ext.alloc | (refine Ext.set ?_ (by first | (simp; done) | (simp; omega) | omega) _) | (refine Ext.trans ?_ (by assumption))))) (lo := 0) (hi := 0)) (.inl (Nat.zero_le _))).held (kept_src hgw6) (.inl (by omega)); obtain ⟨zw6, c0w6, c1w6, c2w6, c3w6, c4w6, c5w6⟩ := HNBw6.out; dsimp only at c0w6 c1w6 c2w6 c3w6 c4w6 c5w6; obtain ⟨v0w6, x0w6⟩ := HXw6.out.c 0 (by omega); obtain ⟨v1w6, x1w6⟩ := HXw6.out.c 1 (by omega); obtain ⟨v2w6, x2w6⟩ := HXw6.out.c 2 (by omega); obtain ⟨v3w6, x3w6⟩ := HXw6.out.c 3 (by omega); obtain ⟨v4w6, x4w6⟩ := HXw6.out.c 4 (by omega); obtain ⟨v5w6, x5w6⟩ := HXw6.out.c 5 (by omega); have xfw6 := HXw6.out.f; have xlw6 := HXw6.out.lt) | (go_simp; go_at_call 20; (with_reducible refine (pick_any 16 _ _ g A n c xs _ (hsw6.after (by with_reducible (repeat (first | exact Ext.refl _ | apply Ext.drewN | apply Ext.drew | apply Ext.alloc | (refine Ext.set ?_ (by first | (simp; done) | (simp; omega) | omega) _) | (refine Ext.trans ?_ (by assumption)))))) (by omega)).mono ?_); rintro e w7 ⟨yw7, rfl, hyw7, hsw7, hgw7⟩; have HNBw7 : Hid (NBox w7 w2.heap.size ⟨k, Ak, na, ca, Bk, nb, cb, Sk, ns, cs, Pk, np, cpp, Qk, nq, cq⟩) := (HNBw6.out.ext (by with_reducible (repeat (first | exact Ext.refl _ | apply Ext.drewN | apply Ext.drew | apply Ext.alloc | (refine Ext.set ?_ (by first | (simp; done) | (simp; omega) | omega) _) | (refine Ext.trans ?_ (by assumption)))))).grown hgw7 (by omega); have HXw7 : Hid (Six w7 w.heap.size) := (HXw6.out.ext (by with_reducible (repeat (first | exact Ext.refl _ | apply Ext.drewN | apply Ext.drew | apply Ext.alloc | (refine Ext.set ?_ (by first | (simp; done) | (simp; omega) | omega) _) | (refine Ext.trans ?_ (by assumption)))))).grown hgw7 hgw; have HNw7 : Hid (NtP w7 (w1.heap.size + 1) b ⟨k, Ak, na, ca, Bk, nb, cb, Sk, ns, cs, Pk, np, cpp, Qk, nq, cq⟩ D) := (HNw6.out.held (Kept.of_ext (by with_reducible (repeat (first | exact Ext.refl _ | apply Ext.drewN | apply Ext.drew | apply Ext.alloc | (refine Ext.set ?_ (by first | (simp; done) | (simp; omega) | omega) _) | (refine Ext.trans ?_ (by assumption))))) (lo := 0) (hi := 0)) (.inl (Nat.zero_le _))).held (kept_src hgw7) (.inl (by omega)); obtain ⟨zw7, c0w7, c1w7, c2w7, c3w7, c4w7, c5w7⟩ := HNBw7.out; dsimp only at c0w7 c1w7 c2w7 c3w7 c4w7 c5w7; obtain ⟨v0w7, x0w7⟩ := HXw7.out.c 0 (by omega); obtain ⟨v1w7, x1w7⟩ := HXw7.out.c 1 (by omega); obtain ⟨v2w7, x2w7⟩ := HXw7.out.c 2 (by omega); obtain ⟨v3w7, x3w7⟩ := HXw7.out.c 3 (by omega); obtain ⟨v4w7, x4w7⟩ := HXw7.out.c 4 (by omega); obtain ⟨v5w7, x5w7⟩ := HXw7.out.c 5 (by omega); have xfw7 := HXw7.out.f; have xlw7 := HXw7.out.lt) | (go_simp; go_at_call 20; (with_reducible refine (pick_any 40 _ _ g A n c xs _ (hsw7.after (by with_reducible (repeat (first | exact Ext.refl _ | apply Ext.drewN | apply Ext.drew | apply Ext.alloc | (refine Ext.set ?_ (by first | (simp; done) | (simp; omega) | omega) _) | (refine Ext.trans ?_ (by assumption)))))) (by omega)).mono ?_); rintro e w8 ⟨yw8, rfl, hyw8, hsw8, hgw8⟩; have HNBw8 : Hid (NBox w8 w2.heap.size ⟨k, Ak, na, ca, Bk, nb, cb, Sk, ns, cs, Pk, np, cpp, Qk, nq, cq⟩) := (HNBw7.out.ext (by with_reducible (repeat (first | exact Ext.refl _ | apply Ext.drewN | apply Ext.drew | apply Ext.alloc | (refine Ext.set ?_ (by first | (simp; done) | (simp; omega) | omega) _) | (refine Ext.trans ?_ (by assumption)))))).grown hgw8 (by omega); have HXw8 : Hid (Six w8 w.heap.size) := (HXw7.out.ext (by with_reducible (repeat (first | exact Ext.refl _ | apply Ext.drewN | apply Ext.drew | apply Ext.alloc | (refine Ext.set ?_ (by first | (simp; done) | (simp; omega) | omega) _) | (refine Ext.trans ?_ (by assumption)))))).grown hgw8 hgw; have HNw8 : Hid (NtP w8 (w1.heap.size + 1) b ⟨k, Ak, na, ca, Bk, nb, cb, Sk, ns, cs, Pk, np, cpp, Qk, nq, cq⟩ D) := (HNw7.out.held (Kept.of_ext (by with_reducible (repeat (first | exact Ext.refl _ | apply Ext.drewN | apply Ext.drew | apply Ext.alloc | (refine Ext.set ?_ (by first | (simp; done) | (simp; omega) | omega) _) | (refine Ext.trans ?_ (by assumption))))) (lo := 0) (hi := 0)) (.inl (Nat.zero_le _))).held (kept_src hgw8) (.inl (by omega)); obtain ⟨zw8, c0w8, c1w8, c2w8, c3w8, c4w8, c5w8⟩ := HNBw8.out; dsimp only at c0w8 c1w8 c2w8 c3w8 c4w8 c5w8; obtain ⟨v0w8, x0w8⟩ := HXw8.out.c 0 (by omega); obtain ⟨v1w8, x1w8⟩ := HXw8.out.c 1 (by omega); obtain ⟨v2w8, x2w8⟩ := HXw8.out.c 2 (by omega); obtain ⟨v3w8, x3w8⟩ := HXw8.out.c 3 (by omega); obtain ⟨v4w8, x4w8⟩ := HXw8.out.c 4 (by omega); obtain ⟨v5w8, x5w8⟩ := HXw8.out.c 5 (by omega); have xfw8 := HXw8.out.f; have xlw8 := HXw8.out.lt))
  all_goals
    have hE8 : Ext w w8 := hE0.out.trans hsw8.ext
    have HDR : Hid (NtI w (sto w8 w.heap.size ⟨k, Ak, na, ca, Bk, nb, cb, Sk, ns, cs, Pk, np, cpp, Qk, nq, cq⟩) ⟨k, Ak, na, ca, Bk, nb, cb, Sk, ns, cs, Pk, np, cpp, Qk, nq, cq⟩ D) := ⟨sto_ext hE8 (Nat.le_refl _) _, (HNw8.out.held (sto_kept w8 w.heap.size _) (.inl (by omega))).read HSB.out.1 HSB.out.2.1, HSB.out.1, HSB.out.2.1, HSB.out.2.2⟩
    have HBX : Hid (NBox (sto w8 w.heap.size ⟨k, Ak, na, ca, Bk, nb, cb, Sk, ns, cs, Pk, np, cpp, Qk, nq, cq⟩) w.heap.size ⟨k, Ak, na, ca, Bk, nb, cb, Sk, ns, cs, Pk, np, cpp, Qk, nq, cq⟩) := sto_box HXw8.out _
    go_wp2
    refine bodyPost_ret (results_not2 Tryz.results5 rfl HBX.out) rfl ?_
    exact ⟨_, _, _, rfl, HDR.out⟩
end Go.Proofs.YtbihbhdaenhdoaaGreat

namespace Go.Proofs.YtbihbhdaenhdoaaGreat
set_option linter.unusedVariables false
set_option linter.unusedSimpArgs false
open Go.ChangeShapes Go.WideShapes Go.ChangeAt Go.RowKit Go.Joins Go.Deep

set_option maxHeartbeats 16000000 in
set_option maxRecDepth 100000 in
theorem DrawSameNotation_any (A : Option Addr) (n c : Nat) (xs : List Int) (w : World) (hB : Byts w A n xs) :
    Calls Tryz.prog 13 #[.slice A n c] w fun e w' => ∃ (V : NV) (D : ND) (U : NV) (E : ND), e = .returned (.tuple #[V.val, U.val]) ∧ Ext w w' ∧ NtR w' V D ∧ NtR w' U E := by
  have HX0 : Hid (Six ((w.alloc (.cells #[.int .i64 0, .slice none 0 0, .slice none 0 0, .slice none 0 0, .slice none 0 0, .slice none 0 0] 33)).alloc (.cells #[.int .i64 0, .slice none 0 0, .slice none 0 0, .slice none 0 0, .slice none 0 0, .slice none 0 0] 33)) w.heap.size) := (Six.new w _ _ _ _ _ _ _).ext ((Ext.refl _).alloc _)
  have HY0 : Hid (Six ((w.alloc (.cells #[.int .i64 0, .slice none 0 0, .slice none 0 0, .slice none 0 0, .slice none 0 0, .slice none 0 0] 33)).alloc (.cells #[.int .i64 0, .slice none 0 0, .slice none 0 0, .slice none 0 0, .slice none 0 0, .slice none 0 0] 33)) (w.heap.size + 1)) := by
    have h := Six.new (w.alloc (.cells #[.int .i64 0, .slice none 0 0, .slice none 0 0, .slice none 0 0, .slice none 0 0, .slice none 0 0] 33)) (.int .i64 0) (.slice none 0 0) (.slice none 0 0) (.slice none 0 0) (.slice none 0 0) (.slice none 0 0) 33
    rwa [World.size_alloc] at h
  have hE0 : Hid (Ext w ((w.alloc (.cells #[.int .i64 0, .slice none 0 0, .slice none 0 0, .slice none 0 0, .slice none 0 0, .slice none 0 0] 33)).alloc (.cells #[.int .i64 0, .slice none 0 0, .slice none 0 0, .slice none 0 0, .slice none 0 0, .slice none 0 0] 33))) := ((Ext.refl _).alloc _).alloc _
  go_enter Tryz.func13, Tryz.ntmps13
  go_wp2_with fail
  (with_reducible refine (l00From_any A n c xs _ (hB.ext (by with_reducible (repeat (first | exact Ext.refl _ | apply Ext.drewN | apply Ext.drew | apply Ext.alloc | (refine Ext.set ?_ (by first | (simp; done) | (simp; omega) | omega) _) | (refine Ext.trans ?_ (by assumption))))))).mono ?_)
  rintro e w1 ⟨g, rfl, hs1, -⟩
  have HX1 : Hid (Six w1 w.heap.size) := HX0.out.ext hs1.ext
  have HY1 : Hid (Six w1 (w.heap.size + 1)) := HY0.out.ext hs1.ext
  have hz1 : w.heap.size + 1 < w1.heap.size := HY1.out.lt
  have hgw : w.heap.size ≠ g := by have := hs1.born; simp at this; omega
  have hgw2 : w.heap.size + 1 ≠ g := by have := hs1.born; simp at this; omega
  have hlt := hs1.lt
  go_wp2_with fail
  (with_reducible refine (l07Draw_any _ w1 g A n c xs 0 hs1 (by omega)).mono ?_)
  rintro e w2 ⟨V, D, rfl, hN, ⟨hSm, hBd, hCp⟩, hst, hs2, hg2⟩
  have HX2 : Hid (Six w2 w.heap.size) := HX1.out.grown hg2 hgw
  have HY2 : Hid (Six w2 (w.heap.size + 1)) := HY1.out.grown hg2 hgw2
  have hz2 := hg2.size
  have HN2 : Hid (NtO w2 (w1.heap.size + 1) w2.heap.size V D) := hN
  have HSB : Hid (D.Sm ∧ D.Bd ∧ Cpb D) := ⟨hSm, hBd, hCp⟩
  clear hN hs1 hg2 HX0 HX1 HY0 HY1 hSm hBd hCp hst
  obtain ⟨k, Ak, na, ca, Bk, nb, cb, Sk, ns, cs, Pk, np, cpp, Qk, nq, cq⟩ := V
  unfold NV.val
  dsimp only at *
  have HNB : Hid (NBox (w2.alloc (.cells #[.int .i64 k, .slice Ak na ca, .slice Bk nb cb, .slice Sk ns cs, .slice Pk np cpp, .slice Qk nq cq] 33)) w2.heap.size ⟨k, Ak, na, ca, Bk, nb, cb, Sk, ns, cs, Pk, np, cpp, Qk, nq, cq⟩) := NBox.new w2 ⟨k, Ak, na, ca, Bk, nb, cb, Sk, ns, cs, Pk, np, cpp, Qk, nq, cq⟩
  have hXA : Ext w2 (w2.alloc (.cells #[.int .i64 k, .slice Ak na ca, .slice Bk nb cb, .slice Sk ns cs, .slice Pk np cpp, .slice Qk nq cq] 33)) := (Ext.refl _).alloc _
  have HX3 : Hid (Six (w2.alloc (.cells #[.int .i64 k, .slice Ak na ca, .slice Bk nb cb, .slice Sk ns cs, .slice Pk np cpp, .slice Qk nq cq] 33)) w.heap.size) := HX2.out.ext hXA
  have HY3 : Hid (Six (w2.alloc (.cells #[.int .i64 k, .slice Ak na ca, .slice Bk nb cb, .slice Sk ns cs, .slice Pk np cpp, .slice Qk nq cq] 33)) (w.heap.size + 1)) := HY2.out.ext hXA
  have HN3 : Hid (NtO (w2.alloc (.cells #[.int .i64 k, .slice Ak na ca, .slice Bk nb cb, .slice Sk ns cs, .slice Pk np cpp, .slice Qk nq cq] 33)) (w1.heap.size + 1) w2.heap.size ⟨k, Ak, na, ca, Bk, nb, cb, Sk, ns, cs, Pk, np, cpp, Qk, nq, cq⟩ D) := HN2.out.ext hXA
  have hs3 := hs2.after hXA
  clear HX2 HY2 HN2 hs2 hXA
  go_wp2_with fail
  (with_reducible refine (one_any 3 _ _ g A n c xs _ hs3 (by omega)).mono ?_)
  rintro e w4 ⟨b4, rfl, hs4, hg4⟩
  have HNB4 : Hid (NBox w4 w2.heap.size ⟨k, Ak, na, ca, Bk, nb, cb, Sk, ns, cs, Pk, np, cpp, Qk, nq, cq⟩) := HNB.out.grown hg4 (by omega)
  have HX4 : Hid (Six w4 w.heap.size) := HX3.out.grown hg4 hgw
  have HY4 : Hid (Six w4 (w.heap.size + 1)) := HY3.out.grown hg4 hgw2
  have HN4 : Hid (NtO w4 (w1.heap.size + 1) w2.heap.size ⟨k, Ak, na, ca, Bk, nb, cb, Sk, ns, cs, Pk, np, cpp, Qk, nq, cq⟩ D) := HN3.out.held (kept_src hg4) (.inr (by omega))
  have hz4 : w2.heap.size < w4.heap.size := HNB4.out.lt
  clear HNB HX3 HY3 HN3 hs3 hg4
  cases b4
  · skip
    go_wp2_with fail
    (with_reducible refine (l07Copy_cpb w2.heap.size ⟨k, Ak, na, ca, Bk, nb, cb, Sk, ns, cs, Pk, np, cpp, Qk, nq, cq⟩ D _ HNB4.out (HN4.out.read HSB.out.1 HSB.out.2.1) HSB.out.2.2).mono ?_)
    rintro e w5 ⟨U, rfl, hN5, hx5⟩
    have hz5 := hx5.size
    have HU5 : Hid (NtO w5 w4.heap.size w5.heap.size U D) := hN5
    have HN5 : Hid (NtO w5 (w1.heap.size + 1) w2.heap.size ⟨k, Ak, na, ca, Bk, nb, cb, Sk, ns, cs, Pk, np, cpp, Qk, nq, cq⟩ D) := HN4.out.ext hx5
    have HNB5 : Hid (NBox w5 w2.heap.size ⟨k, Ak, na, ca, Bk, nb, cb, Sk, ns, cs, Pk, np, cpp, Qk, nq, cq⟩) := HNB4.out.ext hx5
    have HX5 : Hid (Six w5 w.heap.size) := HX4.out.ext hx5
    have HY5 : Hid (Six w5 (w.heap.size + 1)) := HY4.out.ext hx5
    have hs5 := hs4.after hx5
    clear hN5 HNB4 HX4 HY4 HN4 hs4 hx5
    obtain ⟨k2, A2, na2, ca2, B2, nb2, cb2, S2, ns2, cs2, P2, np2, cp2, Q2, nq2, cq2⟩ := U
    unfold NV.val
    dsimp only at *
    have HUB : Hid (NBox (w5.alloc (.cells #[.int .i64 k2, .slice A2 na2 ca2, .slice B2 nb2 cb2, .slice S2 ns2 cs2, .slice P2 np2 cp2, .slice Q2 nq2 cq2] 33)) w5.heap.size ⟨k2, A2, na2, ca2, B2, nb2, cb2, S2, ns2, cs2, P2, np2, cp2, Q2, nq2, cq2⟩) := NBox.new w5 ⟨k2, A2, na2, ca2, B2, nb2, cb2, S2, ns2, cs2, P2, np2, cp2, Q2, nq2, cq2⟩
    have HUS : Hid (Six (w5.alloc (.cells #[.int .i64 k2, .slice A2 na2 ca2, .slice B2 nb2 cb2, .slice S2 ns2 cs2, .slice P2 np2 cp2, .slice Q2 nq2 cq2] 33)) w5.heap.size) := Six.new w5 _ _ _ _ _ _ _
    have hXB : Ext w5 (w5.alloc (.cells #[.int .i64 k2, .slice A2 na2 ca2, .slice B2 nb2 cb2, .slice S2 ns2 cs2, .slice P2 np2 cp2, .slice Q2 nq2 cq2] 33)) := (Ext.refl _).alloc _
    have HX6 : Hid (Six (w5.alloc (.cells #[.int .i64 k2, .slice A2 na2 ca2, .slice B2 nb2 cb2, .slice S2 ns2 cs2, .slice P2 np2 cp2, .slice Q2 nq2 cq2] 33)) w.heap.size) := HX5.out.ext hXB
    have HY6 : Hid (Six (w5.alloc (.cells #[.int .i64 k2, .slice A2 na2 ca2, .slice B2 nb2 cb2, .slice S2 ns2 cs2, .slice P2 np2 cp2, .slice Q2 nq2 cq2] 33)) (w.heap.size + 1)) := HY5.out.ext hXB
    have HN6 : Hid (NtO (w5.alloc (.cells #[.int .i64 k2, .slice A2 na2 ca2, .slice B2 nb2 cb2, .slice S2 ns2 cs2, .slice P2 np2 cp2, .slice Q2 nq2 cq2] 33)) (w1.heap.size + 1) w2.heap.size ⟨k, Ak, na, ca, Bk, nb, cb, Sk, ns, cs, Pk, np, cpp, Qk, nq, cq⟩ D) := HN5.out.ext hXB
    have HU6 : Hid (NtO (w5.alloc (.cells #[.int .i64 k2, .slice A2 na2 ca2, .slice B2 nb2 cb2, .slice S2 ns2 cs2, .slice P2 np2 cp2, .slice Q2 nq2 cq2] 33)) w4.heap.size w5.heap.size ⟨k2, A2, na2, ca2, B2, nb2, cb2, S2, ns2, cs2, P2, np2, cp2, Q2, nq2, cq2⟩ D) := HU5.out.ext hXB
    have HNB6 : Hid (NBox (w5.alloc (.cells #[.int .i64 k2, .slice A2 na2 ca2, .slice B2 nb2 cb2, .slice S2 ns2 cs2, .slice P2 np2 cp2, .slice Q2 nq2 cq2] 33)) w2.heap.size ⟨k, Ak, na, ca, Bk, nb, cb, Sk, ns, cs, Pk, np, cpp, Qk, nq, cq⟩) := HNB5.out.ext hXB
    have hs6 := hs5.after hXB
    clear HX5 HY5 HN5 HU5 HNB5 hs5 hXB
    go_wp2_with fail
    (with_reducible refine (one_any 3 _ _ g A n c xs _ hs6 (by omega)).mono ?_)
    rintro e w7 ⟨b7, rfl, hs7, hg7⟩
    have HNB7 : Hid (NBox w7 w2.heap.size ⟨k, Ak, na, ca, Bk, nb, cb, Sk, ns, cs, Pk, np, cpp, Qk, nq, cq⟩) := HNB6.out.grown hg7 (by omega)
    have HUB7 : Hid (NBox w7 w5.heap.size ⟨k2, A2, na2, ca2, B2, nb2, cb2, S2, ns2, cs2, P2, np2, cp2, Q2, nq2, cq2⟩) := HUB.out.grown hg7 (by omega)
    have HUS7 : Hid (Six w7 w5.heap.size) := HUS.out.grown hg7 (by omega)
    have HX7 : Hid (Six w7 w.heap.size) := HX6.out.grown hg7 hgw
    have HY7 : Hid (Six w7 (w.heap.size + 1)) := HY6.out.grown hg7 hgw2
    have HN7 : Hid (NtO w7 (w1.heap.size + 1) w2.heap.size ⟨k, Ak, na, ca, Bk, nb, cb, Sk, ns, cs, Pk, np, cpp, Qk, nq, cq⟩ D) := HN6.out.held (kept_src hg7) (.inr (by omega))
    have HU7 : Hid (NtO w7 w4.heap.size w5.heap.size ⟨k2, A2, na2, ca2, B2, nb2, cb2, S2, ns2, cs2, P2, np2, cp2, Q2, nq2, cq2⟩ D) := HU6.out.held (kept_src hg7) (.inr (by omega))
    have hz7 : w5.heap.size < w7.heap.size := HUB7.out.lt
    have hE7 : Ext w w7 := hE0.out.trans hs7.ext
    clear HNB6 HUB HUS HX6 HY6 HN6 HU6 hs6 hg7 hs7
    cases b7
    · skip
      have HD : Hid (NBox (sto (sto w7 w.heap.size ⟨k, Ak, na, ca, Bk, nb, cb, Sk, ns, cs, Pk, np, cpp, Qk, nq, cq⟩) (w.heap.size + 1) ⟨k2, A2, na2, ca2, B2, nb2, cb2, S2, ns2, cs2, P2, np2, cp2, Q2, nq2, cq2⟩) w.heap.size ⟨k, Ak, na, ca, Bk, nb, cb, Sk, ns, cs, Pk, np, cpp, Qk, nq, cq⟩ ∧ NBox (sto (sto w7 w.heap.size ⟨k, Ak, na, ca, Bk, nb, cb, Sk, ns, cs, Pk, np, cpp, Qk, nq, cq⟩) (w.heap.size + 1) ⟨k2, A2, na2, ca2, B2, nb2, cb2, S2, ns2, cs2, P2, np2, cp2, Q2, nq2, cq2⟩) (w.heap.size + 1) ⟨k2, A2, na2, ca2, B2, nb2, cb2, S2, ns2, cs2, P2, np2, cp2, Q2, nq2, cq2⟩ ∧ Ext w (sto (sto w7 w.heap.size ⟨k, Ak, na, ca, Bk, nb, cb, Sk, ns, cs, Pk, np, cpp, Qk, nq, cq⟩) (w.heap.size + 1) ⟨k2, A2, na2, ca2, B2, nb2, cb2, S2, ns2, cs2, P2, np2, cp2, Q2, nq2, cq2⟩) ∧ NtR (sto (sto w7 w.heap.size ⟨k, Ak, na, ca, Bk, nb, cb, Sk, ns, cs, Pk, np, cpp, Qk, nq, cq⟩) (w.heap.size + 1) ⟨k2, A2, na2, ca2, B2, nb2, cb2, S2, ns2, cs2, P2, np2, cp2, Q2, nq2, cq2⟩) ⟨k, Ak, na, ca, Bk, nb, cb, Sk, ns, cs, Pk, np, cpp, Qk, nq, cq⟩ D ∧ NtR (sto (sto w7 w.heap.size ⟨k, Ak, na, ca, Bk, nb, cb, Sk, ns, cs, Pk, np, cpp, Qk, nq, cq⟩) (w.heap.size + 1) ⟨k2, A2, na2, ca2, B2, nb2, cb2, S2, ns2, cs2, P2, np2, cp2, Q2, nq2, cq2⟩) ⟨k2, A2, na2, ca2, B2, nb2, cb2, S2, ns2, cs2, P2, np2, cp2, Q2, nq2, cq2⟩ D) :=
        ⟨sto_far (sto_box (HX7.out) _) (by omega) _, sto_box (sto_six (HY7.out) _ _) _, sto_ext (sto_ext (hE7) (Nat.le_refl _) _) (by omega) _, (((HN7.out).held (sto_kept _ _ _) (.inr (by omega))).held (sto_kept _ _ _) (.inr (by omega))).read HSB.out.1 HSB.out.2.1, (((HU7.out).held (sto_kept _ _ _) (.inr (by omega))).held (sto_kept _ _ _) (.inr (by omega))).read HSB.out.1 HSB.out.2.1⟩
      obtain ⟨cz, c0, c1, c2, c3, c4, c5⟩ := HNB7.out
      dsimp only at c0 c1 c2 c3 c4 c5
      obtain ⟨dz, d0, d1, d2, d3, d4, d5⟩ := HUB7.out
      dsimp only at d0 d1 d2 d3 d4 d5
      obtain ⟨xv0, x0⟩ := HX7.out.c 0 (by omega)
      obtain ⟨xv1, x1⟩ := HX7.out.c 1 (by omega)
      obtain ⟨xv2, x2⟩ := HX7.out.c 2 (by omega)
      obtain ⟨xv3, x3⟩ := HX7.out.c 3 (by omega)
      obtain ⟨xv4, x4⟩ := HX7.out.c 4 (by omega)
      obtain ⟨xv5, x5⟩ := HX7.out.c 5 (by omega)
      have xf := HX7.out.f
      have xl := HX7.out.lt
      obtain ⟨yv0, y0⟩ := HY7.out.c 0 (by omega)
      obtain ⟨yv1, y1⟩ := HY7.out.c 1 (by omega)
      obtain ⟨yv2, y2⟩ := HY7.out.c 2 (by omega)
      obtain ⟨yv3, y3⟩ := HY7.out.c 3 (by omega)
      obtain ⟨yv4, y4⟩ := HY7.out.c 4 (by omega)
      obtain ⟨yv5, y5⟩ := HY7.out.c 5 (by omega)
      have yf := HY7.out.f
      have yl := HY7.out.lt
      go_wp2
      go_region
      all_goals
        go_wp2
        refine bodyPost_ret (v := .tuple #[NV.val ⟨k, Ak, na, ca, Bk, nb, cb, Sk, ns, cs, Pk, np, cpp, Qk, nq, cq⟩, NV.val ⟨k2, A2, na2, ca2, B2, nb2, cb2, S2, ns2, cs2, P2, np2, cp2, Q2, nq2, cq2⟩]) ?_ ?_ ?_
        · exact results_nots Tryz.results13 rfl rfl (HD.out.1.ext ((Ext.refl _).drew)) (HD.out.2.1.ext ((Ext.refl _).drew))
        · rfl
        · exact ⟨_, _, _, _, rfl, HD.out.2.2.1.trans ((Ext.refl _).drew), HD.out.2.2.2.1.ext ((Ext.refl _).drew), HD.out.2.2.2.2.ext ((Ext.refl _).drew)⟩
    · skip
      obtain ⟨kk2, hkk⟩ : ∃ q, IntKind.i64.wrap (k2 + 1) = q := ⟨_, rfl⟩
      have HSE : Hid ((⟨kk2, D.p, D.m, D.s, D.a, D.b⟩ : ND).Sm ∧ (⟨kk2, D.p, D.m, D.s, D.a, D.b⟩ : ND).Bd) := ⟨⟨HSB.out.1.p, HSB.out.1.m, HSB.out.1.l, HSB.out.1.s, HSB.out.1.a, HSB.out.1.b⟩, ⟨HSB.out.2.1.p, HSB.out.2.1.m⟩⟩
      have HKK : Kept w5.heap.size (w5.heap.size + 1) w7 (w7.setCell ⟨w5.heap.size, 0, none⟩ (.int .i64 kk2)) := Kept.set (Kept.of_ext (Ext.refl _)) (p := ⟨w5.heap.size, 0, none⟩) (by simp) _
      have HU8 : Hid (NtO (w7.setCell ⟨w5.heap.size, 0, none⟩ (.int .i64 kk2)) w4.heap.size w5.heap.size ⟨kk2, A2, na2, ca2, B2, nb2, cb2, S2, ns2, cs2, P2, np2, cp2, Q2, nq2, cq2⟩ ⟨kk2, D.p, D.m, D.s, D.a, D.b⟩) := ⟨rfl, (HU7.out.held HKK (.inl (Nat.le_refl _))).own⟩
      have HN8 : Hid (NtO (w7.setCell ⟨w5.heap.size, 0, none⟩ (.int .i64 kk2)) (w1.heap.size + 1) w2.heap.size ⟨k, Ak, na, ca, Bk, nb, cb, Sk, ns, cs, Pk, np, cpp, Qk, nq, cq⟩ D) := HN7.out.held HKK (.inl (by omega))
      have HD : Hid (NBox (sto (sto (w7.setCell ⟨w5.heap.size, 0, none⟩ (.int .i64 kk2)) w.heap.size ⟨k, Ak, na, ca, Bk, nb, cb, Sk, ns, cs, Pk, np, cpp, Qk, nq, cq⟩) (w.heap.size + 1) ⟨kk2, A2, na2, ca2, B2, nb2, cb2, S2, ns2, cs2, P2, np2, cp2, Q2, nq2, cq2⟩) w.heap.size ⟨k, Ak, na, ca, Bk, nb, cb, Sk, ns, cs, Pk, np, cpp, Qk, nq, cq⟩ ∧ NBox (sto (sto (w7.setCell ⟨w5.heap.size, 0, none⟩ (.int .i64 kk2)) w.heap.size ⟨k, Ak, na, ca, Bk, nb, cb, Sk, ns, cs, Pk, np, cpp, Qk, nq, cq⟩) (w.heap.size + 1) ⟨kk2, A2, na2, ca2, B2, nb2, cb2, S2, ns2, cs2, P2, np2, cp2, Q2, nq2, cq2⟩) (w.heap.size + 1) ⟨kk2, A2, na2, ca2, B2, nb2, cb2, S2, ns2, cs2, P2, np2, cp2, Q2, nq2, cq2⟩ ∧ Ext w (sto (sto (w7.setCell ⟨w5.heap.size, 0, none⟩ (.int .i64 kk2)) w.heap.size ⟨k, Ak, na, ca, Bk, nb, cb, Sk, ns, cs, Pk, np, cpp, Qk, nq, cq⟩) (w.heap.size + 1) ⟨kk2, A2, na2, ca2, B2, nb2, cb2, S2, ns2, cs2, P2, np2, cp2, Q2, nq2, cq2⟩) ∧ NtR (sto (sto (w7.setCell ⟨w5.heap.size, 0, none⟩ (.int .i64 kk2)) w.heap.size ⟨k, Ak, na, ca, Bk, nb, cb, Sk, ns, cs, Pk, np, cpp, Qk, nq, cq⟩) (w.heap.size + 1) ⟨kk2, A2, na2, ca2, B2, nb2, cb2, S2, ns2, cs2, P2, np2, cp2, Q2, nq2, cq2⟩) ⟨k, Ak, na, ca, Bk, nb, cb, Sk, ns, cs, Pk, np, cpp, Qk, nq, cq⟩ D ∧ NtR (sto (sto (w7.setCell ⟨w5.heap.size, 0, none⟩ (.int .i64 kk2)) w.heap.size ⟨k, Ak, na, ca, Bk, nb, cb, Sk, ns, cs, Pk, np, cpp, Qk, nq, cq⟩) (w.heap.size + 1) ⟨kk2, A2, na2, ca2, B2, nb2, cb2, S2, ns2, cs2, P2, np2, cp2, Q2, nq2, cq2⟩) ⟨kk2, A2, na2, ca2, B2, nb2, cb2, S2, ns2, cs2, P2, np2, cp2, Q2, nq2, cq2⟩ ⟨kk2, D.p, D.m, D.s, D.a, D.b⟩) :=
        ⟨sto_far (sto_box (HX7.out.set _ _) _) (by omega) _, sto_box (sto_six (HY7.out.set _ _) _ _) _, sto_ext (sto_ext (hE7.set (by show w.heap.size ≤ w5.heap.size; omega) _) (Nat.le_refl _) _) (by omega) _, (((HN8.out).held (sto_kept _ _ _) (.inr (by omega))).held (sto_kept _ _ _) (.inr (by omega))).read HSB.out.1 HSB.out.2.1, (((HU8.out).held (sto_kept _ _ _) (.inr (by omega))).held (sto_kept _ _ _) (.inr (by omega))).read HSE.out.1 HSE.out.2⟩
      obtain ⟨cz, c0, c1, c2, c3, c4, c5⟩ := HNB7.out
      dsimp only at c0 c1 c2 c3 c4 c5
      obtain ⟨dz, d0, d1, d2, d3, d4, d5⟩ := HUB7.out
      dsimp only at d0 d1 d2 d3 d4 d5
      have df := HUS7.out.f
      obtain ⟨xv0, x0⟩ := HX7.out.c 0 (by omega)
      obtain ⟨xv1, x1⟩ := HX7.out.c 1 (by omega)
      obtain ⟨xv2, x2⟩ := HX7.out.c 2 (by omega)
      obtain ⟨xv3, x3⟩ := HX7.out.c 3 (by omega)
      obtain ⟨xv4, x4⟩ := HX7.out.c 4 (by omega)
      obtain ⟨xv5, x5⟩ := HX7.out.c 5 (by omega)
      have xf := HX7.out.f
      have xl := HX7.out.lt
      obtain ⟨yv0, y0⟩ := HY7.out.c 0 (by omega)
      obtain ⟨yv1, y1⟩ := HY7.out.c 1 (by omega)
      obtain ⟨yv2, y2⟩ := HY7.out.c 2 (by omega)
      obtain ⟨yv3, y3⟩ := HY7.out.c 3 (by omega)
      obtain ⟨yv4, y4⟩ := HY7.out.c 4 (by omega)
      obtain ⟨yv5, y5⟩ := HY7.out.c 5 (by omega)
      have yf := HY7.out.f
      have yl := HY7.out.lt
      go_wp2
      go_region
      all_goals
        go_wp2
        refine bodyPost_ret (v := .tuple #[NV.val ⟨k, Ak, na, ca, Bk, nb, cb, Sk, ns, cs, Pk, np, cpp, Qk, nq, cq⟩, NV.val ⟨kk2, A2, na2, ca2, B2, nb2, cb2, S2, ns2, cs2, P2, np2, cp2, Q2, nq2, cq2⟩]) ?_ ?_ ?_
        · exact results_nots Tryz.results13 rfl rfl (HD.out.1.ext ((Ext.refl _).drew)) (HD.out.2.1.ext ((Ext.refl _).drew))
        · rfl
        · exact ⟨_, _, _, _, rfl, HD.out.2.2.1.trans ((Ext.refl _).drew), HD.out.2.2.2.1.ext ((Ext.refl _).drew), HD.out.2.2.2.2.ext ((Ext.refl _).drew)⟩
  · skip
    obtain ⟨cz, c0, c1, c2, c3, c4, c5⟩ := HNB4.out
    dsimp only at c0 c1 c2 c3 c4 c5
    obtain ⟨xv0, x0⟩ := HX4.out.c 0 (by omega)
    obtain ⟨xv1, x1⟩ := HX4.out.c 1 (by omega)
    obtain ⟨xv2, x2⟩ := HX4.out.c 2 (by omega)
    obtain ⟨xv3, x3⟩ := HX4.out.c 3 (by omega)
    obtain ⟨xv4, x4⟩ := HX4.out.c 4 (by omega)
    obtain ⟨xv5, x5⟩ := HX4.out.c 5 (by omega)
    have xf := HX4.out.f
    have xl := HX4.out.lt
    obtain ⟨yv0, y0⟩ := HY4.out.c 0 (by omega)
    obtain ⟨yv1, y1⟩ := HY4.out.c 1 (by omega)
    obtain ⟨yv2, y2⟩ := HY4.out.c 2 (by omega)
    obtain ⟨yv3, y3⟩ := HY4.out.c 3 (by omega)
    obtain ⟨yv4, y4⟩ := HY4.out.c 4 (by omega)
    obtain ⟨yv5, y5⟩ := HY4.out.c 5 (by omega)
    have yf := HY4.out.f
    have yl := HY4.out.lt
    have HS4 := Lib.hid hs4
    clear hs4
    go_wp2
    go_region_law (first | (go_simp; go_at_call 41; (with_reducible refine (l07Draw_any _ _ g A n c xs _ (HS4.out.after (by with_reducible (repeat (first | exact Ext.refl _ | apply Ext.drewN | apply Ext.drew | apply Ext.alloc | (refine Ext.set ?_ (by first | (simp; done) | (simp; omega) | omega) _) | (refine Ext.trans ?_ (by assumption)))))) (by omega)).mono ?_); rintro e w9 ⟨U9, D9, rfl, hN9, hb9, hst9, hs9, hg9⟩; obtain ⟨k9, A9, na9, ca9, B9, nb9, cb9, S9, ns9, cs9, P9, np9, cp9, Q9, nq9, cq9⟩ := U9; unfold NV.val; dsimp only; have HNB9 : Hid (NBox w9 w2.heap.size ⟨k, Ak, na, ca, Bk, nb, cb, Sk, ns, cs, Pk, np, cpp, Qk, nq, cq⟩) := (HNB4.out.ext (by with_reducible (repeat (first | exact Ext.refl _ | apply Ext.drewN | apply Ext.drew | apply Ext.alloc | (refine Ext.set ?_ (by first | (simp; done) | (simp; omega) | omega) _) | (refine Ext.trans ?_ (by assumption)))))).grown hg9 (by omega); have HX9 : Hid (Six w9 w.heap.size) := (HX4.out.ext (by with_reducible (repeat (first | exact Ext.refl _ | apply Ext.drewN | apply Ext.drew | apply Ext.alloc | (refine Ext.set ?_ (by first | (simp; done) | (simp; omega) | omega) _) | (refine Ext.trans ?_ (by assumption)))))).grown hg9 hgw; have HY9 : Hid (Six w9 (w.heap.size + 1)) := (HY4.out.ext (by with_reducible (repeat (first | exact Ext.refl _ | apply Ext.drewN | apply Ext.drew | apply Ext.alloc | (refine Ext.set ?_ (by first | (simp; done) | (simp; omega) | omega) _) | (refine Ext.trans ?_ (by assumption)))))).grown hg9 hgw2; have HN9 : Hid (NtO w9 (w1.heap.size + 1) w2.heap.size ⟨k, Ak, na, ca, Bk, nb, cb, Sk, ns, cs, Pk, np, cpp, Qk, nq, cq⟩ D) := (HN4.out.ext (by with_reducible (repeat (first | exact Ext.refl _ | apply Ext.drewN | apply Ext.drew | apply Ext.alloc | (refine Ext.set ?_ (by first | (simp; done) | (simp; omega) | omega) _) | (refine Ext.trans ?_ (by assumption)))))).held (kept_src hg9) (.inr (by omega)); have hzz9 := hg9.size; have HE9 : Hid (Ext w w9) := hE0.out.trans hs9.ext; have HB9 : Hid (D9.Sm ∧ D9.Bd) := ⟨hb9.1, hb9.2.1⟩; have HU9 : Hid (NtO w9 (w4.heap.size + 1) w9.heap.size ⟨k9, A9, na9, ca9, B9, nb9, cb9, S9, ns9, cs9, P9, np9, cp9, Q9, nq9, cq9⟩ D9) := hN9.wide (by first | exact Nat.le_refl _ | (simp; done) | (simp; omega)) (Nat.le_refl _); obtain ⟨zz9, d0, d1, d2, d3, d4, d5⟩ := HNB9.out; dsimp only at d0 d1 d2 d3 d4 d5; obtain ⟨u0, p0⟩ := HX9.out.c 0 (by omega); obtain ⟨u1, p1⟩ := HX9.out.c 1 (by omega); obtain ⟨u2, p2⟩ := HX9.out.c 2 (by omega); obtain ⟨u3, p3⟩ := HX9.out.c 3 (by omega); obtain ⟨u4, p4⟩ := HX9.out.c 4 (by omega); obtain ⟨u5, p5⟩ := HX9.out.c 5 (by omega); obtain ⟨t0, q0⟩ := HY9.out.c 0 (by omega); obtain ⟨t1, q1⟩ := HY9.out.c 1 (by omega); obtain ⟨t2, q2⟩ := HY9.out.c 2 (by omega); obtain ⟨t3, q3⟩ := HY9.out.c 3 (by omega); obtain ⟨t4, q4⟩ := HY9.out.c 4 (by omega); obtain ⟨t5, q5⟩ := HY9.out.c 5 (by omega); have pf := HX9.out.f; have qf := HY9.out.f; have pl := HX9.out.lt; have ql := HY9.out.lt; clear hN9 hs9 hg9 hb9 hst9))
    all_goals
      have HD : Hid (NBox (sto (sto w9 w.heap.size ⟨k, Ak, na, ca, Bk, nb, cb, Sk, ns, cs, Pk, np, cpp, Qk, nq, cq⟩) (w.heap.size + 1) ⟨k9, A9, na9, ca9, B9, nb9, cb9, S9, ns9, cs9, P9, np9, cp9, Q9, nq9, cq9⟩) w.heap.size ⟨k, Ak, na, ca, Bk, nb, cb, Sk, ns, cs, Pk, np, cpp, Qk, nq, cq⟩ ∧ NBox (sto (sto w9 w.heap.size ⟨k, Ak, na, ca, Bk, nb, cb, Sk, ns, cs, Pk, np, cpp, Qk, nq, cq⟩) (w.heap.size + 1) ⟨k9, A9, na9, ca9, B9, nb9, cb9, S9, ns9, cs9, P9, np9, cp9, Q9, nq9, cq9⟩) (w.heap.size + 1) ⟨k9, A9, na9, ca9, B9, nb9, cb9, S9, ns9, cs9, P9, np9, cp9, Q9, nq9, cq9⟩ ∧ Ext w (sto (sto w9 w.heap.size ⟨k, Ak, na, ca, Bk, nb, cb, Sk, ns, cs, Pk, np, cpp, Qk, nq, cq⟩) (w.heap.size + 1) ⟨k9, A9, na9, ca9, B9, nb9, cb9, S9, ns9, cs9, P9, np9, cp9, Q9, nq9, cq9⟩) ∧ NtR (sto (sto w9 w.heap.size ⟨k, Ak, na, ca, Bk, nb, cb, Sk, ns, cs, Pk, np, cpp, Qk, nq, cq⟩) (w.heap.size + 1) ⟨k9, A9, na9, ca9, B9, nb9, cb9, S9, ns9, cs9, P9, np9, cp9, Q9, nq9, cq9⟩) ⟨k, Ak, na, ca, Bk, nb, cb, Sk, ns, cs, Pk, np, cpp, Qk, nq, cq⟩ D ∧ NtR (sto (sto w9 w.heap.size ⟨k, Ak, na, ca, Bk, nb, cb, Sk, ns, cs, Pk, np, cpp, Qk, nq, cq⟩) (w.heap.size + 1) ⟨k9, A9, na9, ca9, B9, nb9, cb9, S9, ns9, cs9, P9, np9, cp9, Q9, nq9, cq9⟩) ⟨k9, A9, na9, ca9, B9, nb9, cb9, S9, ns9, cs9, P9, np9, cp9, Q9, nq9, cq9⟩ D9) :=
        ⟨sto_far (sto_box (HX9.out) _) (by omega) _, sto_box (sto_six (HY9.out) _ _) _, sto_ext (sto_ext (HE9.out) (Nat.le_refl _) _) (by omega) _, (((HN9.out).held (sto_kept _ _ _) (.inr (by omega))).held (sto_kept _ _ _) (.inr (by omega))).read HSB.out.1 HSB.out.2.1, (((HU9.out).held (sto_kept _ _ _) (.inr (by omega))).held (sto_kept _ _ _) (.inr (by omega))).read HB9.out.1 HB9.out.2⟩
      go_wp2
      refine bodyPost_ret (v := .tuple #[NV.val ⟨k, Ak, na, ca, Bk, nb, cb, Sk, ns, cs, Pk, np, cpp, Qk, nq, cq⟩, NV.val ⟨k9, A9, na9, ca9, B9, nb9, cb9, S9, ns9, cs9, P9, np9, cp9, Q9, nq9, cq9⟩]) ?_ ?_ ?_
      · exact results_nots Tryz.results13 rfl rfl HD.out.1 HD.out.2.1
      · rfl
      · exact ⟨_, _, _, _, rfl, HD.out.2.2.1, HD.out.2.2.2.1, HD.out.2.2.2.2⟩
end Go.Proofs.YtbihbhdaenhdoaaGreat

namespace Go.Proofs.YtbihbhdaenhdoaaGreat
set_option linter.unusedVariables false
set_option linter.unusedSimpArgs false
open Go

/-- i waits for j, by way of at most f edges. -/
def waitsFor (ops : Array Oper) : Nat → Nat → Nat → Bool
  | 0, _, _ => false
  | f + 1, i, j => ((ops[i]?).map (·.after.any fun e => Region.binds .any e && (e.on == j || waitsFor ops f e.on j))).getD false
/-- The operations from n on wait for all operations ahead of n, and those ahead of n wait for elder ones alone. -/
def lateOk (ops : Array Oper) (n f : Nat) : Bool :=
  ((List.range n).all fun i => ((ops[i]?).map (·.after.all fun e => !Region.binds .any e || decide (e.on < i))).getD false) &&
  ((List.range ops.size).all fun i => decide (i < n) || (List.range n).all fun j => waitsFor ops f i j)
/-- What is to be shown behind the operations ahead of n. -/
def LateQ (P : Program) (ops : Array Oper) (Q : Exit → Act → World → Prop) (n k : Nat) (m : Array Bool) : Exit → Act → World → Prop
  | .normal, a, w => wpAny P .any ops Q k m a w
  | e, a, w => Q e a w
section
variable {P : Program} {ops : Array Oper} {Q : Exit → Act → World → Prop} {n k : Nat} {m : Array Bool}
theorem LateQ.normal {a : Act} {w : World} (h : wpAny P .any ops Q k m a w) : LateQ P ops Q n k m .normal a w := h
theorem LateQ.wp {o : Oper} {a : Act} {w : World} {K K' : Act → World → Prop} (h : ∀ a w, K a w → K' a w) (hh : o.wp P a w K (LateQ P ops Q n k m)) : o.wp P a w K' Q := by
  unfold Oper.wp at *
  generalize (execOp a.eval o).run P w = r at *
  cases r with
  | ok x w' =>
    cases x <;> simp only [Oper.upon] at hh ⊢ <;>
      first
        | exact h _ _ hh
        | exact Calls.mono hh (fun e w'' he => by cases e <;> first | exact h _ _ he | exact he)
        | exact Rows.mono hh (fun _ _ he => h _ _ he)
  | halt x w' => cases x <;> simp only [Oper.upon] at hh ⊢ <;> exact hh
theorem LateQ.wpOp {i : Nat} {a : Act} {w : World} {K K' : Act → World → Prop} (h : ∀ a w, K a w → K' a w) (hh : wpOp P ops (LateQ P ops Q n k m) i K a w) : wpOp P ops Q i K' a w := by
  unfold Go.wpOp at *
  split
  · exact h _ _ (by simpa [*] using hh)
  · rename_i o ho
    simp only [ho] at hh
    split
    · rename_i hw; simp only [hw, if_true] at hh; exact hh.imp (LateQ.wp h) id
    · rename_i hw; simp only [hw] at hh; exact h _ _ hh
theorem wpAny_up : ∀ (f : Nat) (l : Array Bool) (a : Act) (w : World), wpAny P .any ops Q f l a w → wpAny P .any ops Q (f + 1) l a w
  | 0, l, a, w, h => ⟨fun _ => h.2, fun i hi => by rw [h.1] at hi; cases hi⟩
  | f + 1, l, a, w, h => ⟨h.1, fun i hi => wpOp_mono (fun a' w' h' => wpAny_up f _ a' w' h') (h.2 i hi)⟩
theorem wpAny_ups {l : Array Bool} {a : Act} {w : World} (h : wpAny P .any ops Q k l a w) : ∀ f, wpAny P .any ops Q (f + k) l a w
  | 0 => by rw [Nat.zero_add]; exact h
  | f + 1 => by rw [Nat.add_right_comm]; exact wpAny_up _ _ _ _ (wpAny_ups h f)
/-- Whatever is listed, what it waits for is listed. -/
def Shutd (ops : Array Oper) (l : Array Bool) : Prop := ∀ i o e, ops[i]? = some o → l.getD i false = true → e ∈ o.after → Region.binds .any e = true → l.getD e.on false = true
theorem waitsFor_listed {l : Array Bool} (hs : Shutd ops l) (j : Nat) : ∀ (f i : Nat), (∀ o e, ops[i]? = some o → e ∈ o.after → Region.binds .any e = true → l.getD e.on false = true) → waitsFor ops f i j = true → l.getD j false = true
  | 0, _, _, h => by simp [waitsFor] at h
  | f + 1, i, hi, h => by
    unfold waitsFor at h
    cases ho : ops[i]? with
    | none => simp [ho] at h
    | some o =>
      simp only [ho, Option.map_some, Option.getD_some] at h
      obtain ⟨k, hk, hb⟩ := Array.any_iff_exists.1 h
      obtain ⟨hk1, hk2⟩ := hb
      simp only [Bool.and_eq_true, Bool.or_eq_true, beq_iff_eq] at hk2
      have hm : o.after[k] ∈ o.after := Array.getElem_mem _
      have hl := hi o _ ho hm hk2.2.1
      rcases hk2.2.2 with he | he
      · rwa [he] at hl
      · exact waitsFor_listed hs j f _ (fun o' e' ho' he' hb' => hs _ o' e' ho' hl he' hb') he
theorem getD_set_sm {l : Array Bool} {i j : Nat} (hi : i < l.size) : (l.setIfInBounds i true).getD j false = (decide (i = j) || l.getD j false) := by
  by_cases h : i = j
  · subst h; simp [Array.getD_eq_getD_getElem?, hi]
  · simp [Array.getD_eq_getD_getElem?, Array.getElem?_setIfInBounds_ne h, h]
structure LateI (ops : Array Oper) (n : Nat) (l L : Array Bool) : Prop where
  sl : l.size = ops.size
  sL : L.size = ops.size
  lo : ∀ i, i < n → L.getD i false = l.getD i false
  hi : ∀ i, n ≤ i → l.getD i false = false
  Hi : ∀ i, n ≤ i → i < ops.size → L.getD i false = true
  sh : Shutd ops l
theorem mem_ready2 {l : Array Bool} {i : Nat} (hl : l.size = ops.size) : i ∈ Region.ready .any ops l ↔ i < ops.size ∧ l.getD i false = false ∧ ∀ o e, ops[i]? = some o → e ∈ o.after → Region.binds .any e = true → l.getD e.on false = true := by
  unfold Region.ready
  simp only [List.mem_filter, List.mem_range, Bool.and_eq_true, Bool.not_eq_true']
  constructor
  · rintro ⟨h1, h2, h3⟩
    refine ⟨h1, ?_, fun o e ho he hb => ?_⟩
    · simpa [Array.getD_eq_getD_getElem?, hl, h1] using h2
    · simp only [ho, Option.map_some, Option.getD_some] at h3
      have := Array.all_iff_forall.1 h3
      obtain ⟨k, hk, rfl⟩ := Array.mem_iff_getElem.1 he
      have h4 := this k hk ⟨by omega, hk⟩
      simpa [hb] using h4
  · rintro ⟨h1, h2, h3⟩
    refine ⟨h1, ?_, ?_⟩
    · simpa [Array.getD_eq_getD_getElem?, hl, h1] using h2
    · have ho : ops[i]? = some ops[i] := Array.getElem?_eq_getElem h1
      simp only [ho, Option.map_some, Option.getD_some]
      refine Array.all_iff_forall.2 fun k hk _ => ?_
      have h5 := h3 _ (ops[i]).after[k] ho (Array.getElem_mem _)
      cases hb : Region.binds .any (ops[i]).after[k]
      · simp
      · simpa using h5 hb
theorem wpAny_late {f : Nat} (hn : n ≤ ops.size) (hok : lateOk ops n f = true) (hm : m.size = ops.size) (hml : ∀ i, m.getD i false = decide (i < n)) :
    ∀ (fuel : Nat) (l L : Array Bool) (a : Act) (w : World), LateI ops n l L → wpAny P .any ops (LateQ P ops Q n k m) fuel L a w → wpAny P .any ops Q (fuel + k) l a w := by
  simp only [lateOk, Bool.and_eq_true, List.all_eq_true, List.mem_range, Bool.or_eq_true, decide_eq_true_eq] at hok
  obtain ⟨hE, hL⟩ := hok
  -- the least operation ahead of n that is not listed is ready
  have least : ∀ (l : Array Bool), l.size = ops.size → (∃ i, i < n ∧ l.getD i false = false) → ∃ i, i < n ∧ i ∈ Region.ready .any ops l := by
    intro l hl hex
    obtain ⟨i, ⟨hi1, hi2⟩, hmin⟩ : ∃ i, (i < n ∧ l.getD i false = false) ∧ ∀ j, j < i → ¬ (j < n ∧ l.getD j false = false) := by
      obtain ⟨i0, h0⟩ := hex
      induction i0 using Nat.strongRecOn with
      | _ i0 ih =>
        by_cases hc : ∃ j, j < i0 ∧ (j < n ∧ l.getD j false = false)
        · obtain ⟨j, hj, hj2⟩ := hc
          exact ih j hj hj2
        · exact ⟨i0, h0, fun j hj h => hc ⟨j, hj, h⟩⟩
    refine ⟨i, hi1, (mem_ready2 hl).2 ⟨by omega, hi2, fun o e ho he hb => ?_⟩⟩
    have h1 := hE i hi1
    simp only [ho, Option.map_some, Option.getD_some] at h1
    obtain ⟨q, hq, rfl⟩ := Array.mem_iff_getElem.1 he
    have h2 := Array.all_iff_forall.1 h1 q hq ⟨by omega, hq⟩
    simp only [hb, Bool.not_true, Bool.false_or, decide_eq_true_eq] at h2
    have h3 := hmin _ h2
    cases hc : l.getD (o.after[q]).on false
    · exact absurd ⟨by omega, hc⟩ h3
    · rfl
  -- all ahead of n are listed: the rest
  have full : ∀ (l L : Array Bool), LateI ops n l L → (∀ i, i < n → l.getD i false = true) → l = m := by
    intro l L hI hall
    refine Array.ext (by rw [hI.sl, hm]) fun i h1 h2 => ?_
    have e1 : l.getD i false = l[i] := by simp [Array.getD_eq_getD_getElem?, h1]
    have e2 : m.getD i false = m[i] := by simp [Array.getD_eq_getD_getElem?, h2]
    rw [← e1, ← e2, hml]
    by_cases hi : i < n
    · rw [hall i hi]; simp [hi]
    · rw [hI.hi i (by omega)]; simp [hi]
  have noneL : ∀ (l L : Array Bool), LateI ops n l L → (Region.ready .any ops L = [] ↔ ∀ i, i < n → l.getD i false = true) := by
    intro l L hI
    constructor
    · intro hr i hi
      cases hc : l.getD i false
      · obtain ⟨j, hj, hj2⟩ := least L hI.sL ⟨i, hi, by rw [hI.lo i hi]; exact hc⟩
        rw [hr] at hj2
        cases hj2
      · rfl
    · intro hall
      refine List.eq_nil_iff_forall_not_mem.2 fun i hi => ?_
      obtain ⟨h1, h2, _⟩ := (mem_ready2 hI.sL).1 hi
      by_cases hin : i < n
      · rw [hI.lo i hin, hall i hin] at h2; cases h2
      · rw [hI.Hi i (by omega) h1] at h2; cases h2
  intro fuel
  induction fuel with
  | zero =>
    intro l L a w hI h
    have := full l L hI ((noneL l L hI).1 h.1)
    subst this
    rw [Nat.zero_add]
    exact h.2
  | succ fuel ih =>
    intro l L a w hI h
    by_cases hall : ∀ i, i < n → l.getD i false = true
    · have := full l L hI hall
      subst this
      exact wpAny_ups (h.1 ((noneL l L hI).2 hall)) _
    · rw [Nat.add_right_comm]
      have hex : ∃ i, i < n ∧ l.getD i false = false := by
        refine Classical.byContradiction fun hc => hall fun i hi => ?_
        cases hh : l.getD i false
        · exact absurd ⟨i, hi, hh⟩ hc
        · rfl
      refine ⟨fun hr => ?_, fun i hi => ?_⟩
      · obtain ⟨j, _, hj2⟩ := least l hI.sl hex
        rw [hr] at hj2
        cases hj2
      · obtain ⟨h1, h2, h3⟩ := (mem_ready2 hI.sl).1 hi
        have hin : i < n := by
          refine Classical.byContradiction fun hc => ?_
          obtain ⟨j, hj, hj2⟩ := hex
          have h4 := waitsFor_listed hI.sh j f i h3 ((hL i h1).resolve_left hc j hj)
          rw [hj2] at h4
          cases h4
        have hiL : i ∈ Region.ready .any ops L := by
          refine (mem_ready2 hI.sL).2 ⟨h1, by rw [hI.lo i hin]; exact h2, fun o e ho he hb => ?_⟩
          have h4 := h3 o e ho he hb
          by_cases hen : e.on < n
          · rw [hI.lo _ hen]; exact h4
          · rw [hI.hi _ (by omega)] at h4; cases h4
        refine LateQ.wpOp (fun a' w' h' => ih _ _ a' w' ⟨by simpa using hI.sl, by simpa using hI.sL, fun q hq => ?_, fun q hq => ?_, fun q hq hq2 => ?_, fun q o e ho hq he hb => ?_⟩ h') (h.2 i hiL)
        · rw [getD_set_sm (by rw [hI.sL]; exact h1), getD_set_sm (by rw [hI.sl]; exact h1), hI.lo q hq]
        · rw [getD_set_sm (by rw [hI.sl]; exact h1), hI.hi q hq]; simp; omega
        · rw [getD_set_sm (by rw [hI.sL]; exact h1), hI.Hi q hq hq2]; simp
        · rw [getD_set_sm (by rw [hI.sl]; exact h1)] at hq ⊢
          by_cases e1 : i = q
          · subst e1
            rw [h3 o e ho he hb]; simp
          · simp only [e1, decide_false, Bool.false_or] at hq
            rw [hI.sh q o e ho hq he hb]; simp
/-- The beginning. -/
theorem wp_region_late {id : Nat} {a : Act} {w : World} (n k f : Nat) (S : World → Prop) (hk : n + k = ops.size) (hm : P.follows .mixedOrders = true) (hok : lateOk ops n f = true) (hS : S w.drew)
    (h : S w.drew → wpAnyH P .any ops (LateQ P ops Q n k (Array.replicate n true ++ Array.replicate k false)) S n (Array.replicate n false ++ Array.replicate k true) a w.drew) : (Code.region id ops true).wp P Q a w := by
  refine wp_region_any hm ?_
  have h1 := wpAny_of_held _ _ _ _ (h hS)
  have h2 := wpAny_late (Q := Q) (k := k) (f := f) (m := Array.replicate n true ++ Array.replicate k false) (by omega) hok (by simp [hk]) (fun i => by
    simp only [Array.getD_eq_getD_getElem?, Array.getElem?_append, Array.size_replicate, Array.getElem?_replicate]
    by_cases hi : i < n
    · simp [hi]
    · simp [hi]; split <;> rfl) n (Array.replicate ops.size false) _ a w.drew ⟨by simp, by simp [hk], fun i hi => ?_, fun i hi => ?_, fun i hi hi2 => ?_, fun i o e ho hl => ?_⟩ h1
  · rw [hk] at h2; exact h2
  · simp [Array.getD_eq_getD_getElem?, Array.getElem?_append, hi, Array.getElem?_replicate]; split <;> rfl
  · simp [Array.getD_eq_getD_getElem?, Array.getElem?_replicate]; split <;> rfl
  · simp [Array.getD_eq_getD_getElem?, Array.getElem?_append, Array.getElem?_replicate, show ¬ i < n by omega, show i - n < k by omega]
  · exfalso
    simp [Array.getD_eq_getD_getElem?, Array.getElem?_replicate] at hl
    split at hl <;> cases hl
end
/-- The cells named in cs hold the values that are named beside them. -/
def Holds (cs : List (Addr × Value)) (w : World) : Prop := ∀ c ∈ cs, w.cell? c.1 = some c.2
section
variable {cs : List (Addr × Value)} {w w' : World}
theorem Holds_nil : Holds [] w ↔ True := by simp [Holds]
theorem Holds_cons {p : Addr} {v : Value} : Holds ((p, v) :: cs) w ↔ w.cell? p = some v ∧ Holds cs w := by simp [Holds]
theorem Holds.drew (h : Holds cs w) : Holds cs w.drew := h
theorem Holds.alloc (h : Holds cs w) (o : Obj) : Holds cs (w.alloc o) := fun c hc => by
  have h1 := h c hc
  rw [World.cell?_alloc_some _ _ _ (by rw [h1]; rfl)]
  exact h1
theorem Holds.same (h : Holds cs w) (k : ∀ c ∈ cs, w'.cell? c.1 = w.cell? c.1) : Holds cs w' := fun c hc => (k c hc).trans (h c hc)
theorem Holds.far (h : Holds cs w) {p : Addr} (hp : ∀ c ∈ cs, p.block ≠ c.1.block) (v : Value) : Holds cs (w.setCell p v) := fun c hc => by
  rw [World.cell?_setCell_far _ _ _ _ (hp c hc)]; exact h c hc
end
end Go.Proofs.YtbihbhdaenhdoaaGreat

namespace Go.Proofs.YtbihbhdaenhdoaaGreat
set_option linter.unusedVariables false
set_option linter.unusedSimpArgs false
open Go.ChangeShapes Go.WideShapes Go.ChangeAt Go.RowKit Go.Joins Go.Deep

/-- What a conversion without a fault keeps. -/
structure FcOk (D : ND) (q : Int) (X : ND) : Prop where
  vd : vnt D = true
  vx : vnt X = true
  k : X.k = q
  e : X.s.length % 2 = 0
  back : (cnv X D.k).2.2 = 5 ∧ D.k = 4 ∨ (cnv X D.k).2.2 = 0 ∧ (cnv (cnv X D.k).1 q).1 = X ∧ (cnv (cnv X D.k).1 q).2.2 = 0
  props : (if D.k = 4 ∧ q ≠ 4 then 2 * npr X else npr X) = (if q = 4 ∧ D.k ≠ 4 then 2 * npr D else npr D)
  beats : nbt X = nbt D ∨ nbt X = 2 * nbt D
theorem fc_ok {D : ND} {q : Int} {X : ND} {s : ByteArray} (he : D.s.length % 2 = 0) (hr : cnv D q = (X, s, 0)) : FcOk D q X := by
  have h0 : (cnv D q).2.2 = 0 := by rw [hr]
  have hX : (cnv D q).1 = X := by rw [hr]
  by_cases hk : D.k = q
  · obtain ⟨hv, hc⟩ := cnv_self hk h0
    have hXD : X = D := by rw [← hX, hc]
    subst hXD
    refine ⟨hv, hv, hk, he, .inr ?_, ?_, .inl rfl⟩
    · rw [hk, hc]
      exact ⟨rfl, by rw [hc], by rw [hc]⟩
    · rw [if_neg (by omega), if_neg (by omega)]
  · have hv := (cnv_ok0 hk h0).1
    obtain ⟨x2, x1, x5, _, _, xb⟩ := cnv_there he hk h0
    obtain ⟨p1, p2⟩ := cnv_props he hk h0
    rw [hX] at x2 x1 x5 xb p1 p2
    exact ⟨hv, x2, x1, x5, xb, p1, p2⟩
theorem npr_bd {D : ND} (h : vnt D = true) : 0 ≤ npr D ∧ npr D ≤ 100 := by
  have small : ∀ (a : Int) (n M : Nat), 0 ≤ a → a ≤ M * n → 1 ≤ n → 0 ≤ a / (n : Int) ∧ a / (n : Int) ≤ M := fun a n M h0 h1 h2 => by
    refine ⟨Int.ediv_nonneg h0 (by omega), ?_⟩
    have : a < ((M : Int) + 1) * n := by rw [Int.add_mul, Int.one_mul]; omega
    have := Int.ediv_lt_of_lt_mul (by omega : (0 : Int) < n) this
    omega
  unfold npr
  rcases vnt_kind h with ⟨hk, hv⟩ | ⟨hk, hv⟩ | ⟨hk, hv⟩ | ⟨hk, hv⟩
  · rw [if_pos hk]
    have := prp_bd hv
    omega
  · rw [if_neg (by omega), if_pos hk]
    have h1 := rsm_bd hv (k := D.m.length) (Nat.le_refl _)
    have h2 := vmul_len hv
    have := small (smm D.m) D.m.length 60 h1.1 h1.2 h2.1
    omega
  · rw [if_neg (by omega), if_neg (by omega), if_pos hk]
    have h1 := smi_bd (f := tv D.s) (M := 14) (by omega) (k := D.s.length) (vsyn_tv hv)
    have h2 := vsyn_len hv
    have := small (smi (tv D.s) D.s.length) D.s.length 14 h1.1 h1.2 (by omega)
    omega
  · rw [if_neg (by omega), if_neg (by omega), if_neg (by omega)]
    obtain ⟨g1, g2, g3, g4, g5⟩ := vpas_parts hv
    rw [g3] at g5
    have h1 := smi_bd (f := fun i => tv D.a i + tv D.b i) (M := 30) (by omega) (k := D.a.length) (fun i hi => by have := g4 i hi; have := g5 i hi; omega)
    have := small (smi (fun i => tv D.a i + tv D.b i) D.a.length) D.a.length 30 h1.1 h1.2 g1
    omega
theorem nbt_bd {D : ND} (h : vnt D = true) : 0 ≤ nbt D ∧ nbt D ≤ 100 := by
  unfold nbt
  rcases vnt_kind h with ⟨hk, hv⟩ | ⟨hk, hv⟩ | ⟨hk, hv⟩ | ⟨hk, hv⟩
  · rw [if_pos hk]
    have := vpat_len hv
    omega
  · rw [if_neg (by omega), if_pos hk]
    have := vmul_len hv
    omega
  · rw [if_neg (by omega), if_neg (by omega), if_pos hk]
    have := vsyn_len hv
    omega
  · rw [if_neg (by omega), if_neg (by omega), if_neg (by omega)]
    have := vpas_len hv
    omega
theorem HoldsC {cs : List (Addr × Value)} {w w' : World} (h : Holds cs w) (k : Ext w w') : Holds cs w' := fun c hc => (Below.cell k (World.block_lt_of_cell? w c.1 (h c hc))).trans (h c hc)
theorem implConvert_y (k : Int) (A : Option Addr) (na ca : Nat) (B : Option Addr) (nb cb : Nat) (S : Option Addr) (ns cs : Nat) (P : Option Addr) (np cp : Nat) (Q : Option Addr) (nq cq : Nat) (D : ND) (q : Int) (X : ND) (s : ByteArray) (r : Int) (hr : cnv D q = (X, s, r)) (w : World) (hI : NtR w ((⟨k, A, na, ca, B, nb, cb, S, ns, cs, P, np, cp, Q, nq, cq⟩) : NV) D) (hS : np ≤ 1048576 ∧ nq ≤ 1048576) :
    Calls Tryz.prog 6 #[.agg #[.int .i64 k, .slice A na ca, .slice B nb cb, .slice S ns cs, .slice P np cp, .slice Q nq cq], .int .i64 q] w fun e w' => ∃ U : NV, e = .returned (.tuple #[U.val, .string s, .int .i64 r]) ∧ NtO w' w.heap.size w'.heap.size U X ∧ Ext w w' := by
  have h := implConvert_x k A na ca B nb cb S ns cs P np cp Q nq cq D q w hI hS
  rw [hr] at h
  exact h
theorem implNotationProps_y (k : Int) (A : Option Addr) (na ca : Nat) (B : Option Addr) (nb cb : Nat) (S : Option Addr) (ns cs : Nat) (P : Option Addr) (np cp : Nat) (Q : Option Addr) (nq cq : Nat) (D : ND) (r s : Int) (w : World) (hI : NtR w ((⟨k, A, na, ca, B, nb, cb, S, ns, cs, P, np, cp, Q, nq, cq⟩) : NV) D) (hS : np ≤ 1048576 ∧ nq ≤ 1048576) (hr : (if vnt D = true then npr D else 0) = r) (hs : (if vnt D = true then (0 : Int) else 1) = s) :
    Calls Tryz.prog 9 #[.agg #[.int .i64 k, .slice A na ca, .slice B nb cb, .slice S ns cs, .slice P np cp, .slice Q nq cq]] w fun e w' => e = .returned (.tuple #[.int .i64 r, .int .i64 s]) ∧ Ext w w' := implNotationProps_any ⟨k, A, na, ca, B, nb, cb, S, ns, cs, P, np, cp, Q, nq, cq⟩ D r s w hI hS hr hs
theorem implNotationBeats_y (k : Int) (A : Option Addr) (na ca : Nat) (B : Option Addr) (nb cb : Nat) (S : Option Addr) (ns cs : Nat) (P : Option Addr) (np cp : Nat) (Q : Option Addr) (nq cq : Nat) (D : ND) (r s : Int) (w : World) (hI : NtR w ((⟨k, A, na, ca, B, nb, cb, S, ns, cs, P, np, cp, Q, nq, cq⟩) : NV) D) (hS : np ≤ 1048576 ∧ nq ≤ 1048576) (hr : (if vnt D = true then nbt D else 0) = r) (hs : (if vnt D = true then (0 : Int) else 1) = s) :
    Calls Tryz.prog 11 #[.agg #[.int .i64 k, .slice A na ca, .slice B nb cb, .slice S ns cs, .slice P np cp, .slice Q nq cq]] w fun e w' => e = .returned (.tuple #[.int .i64 r, .int .i64 s]) ∧ Ext w w' := implNotationBeats_any ⟨k, A, na, ca, B, nb, cb, S, ns, cs, P, np, cp, Q, nq, cq⟩ D r s w hI hS hr hs
theorem implSameNotation_y (k : Int) (A : Option Addr) (na ca : Nat) (B : Option Addr) (nb cb : Nat) (S : Option Addr) (ns cs : Nat) (P : Option Addr) (np cp : Nat) (Q : Option Addr) (nq cq : Nat) (D : ND) (k' : Int) (A' : Option Addr) (na' ca' : Nat) (B' : Option Addr) (nb' cb' : Nat) (S' : Option Addr) (ns' cs' : Nat) (P' : Option Addr) (np' cp' : Nat) (Q' : Option Addr) (nq' cq' : Nat) (E : ND) (v : Bool) (hv : sme D E = v) (w : World) (hI : NtR w ((⟨k, A, na, ca, B, nb, cb, S, ns, cs, P, np, cp, Q, nq, cq⟩) : NV) D) (hJ : NtR w ((⟨k', A', na', ca', B', nb', cb', S', ns', cs', P', np', cp', Q', nq', cq'⟩) : NV) E) :
    Calls Tryz.prog 15 #[.agg #[.int .i64 k, .slice A na ca, .slice B nb cb, .slice S ns cs, .slice P np cp, .slice Q nq cq], .agg #[.int .i64 k', .slice A' na' ca', .slice B' nb' cb', .slice S' ns' cs', .slice P' np' cp', .slice Q' nq' cq']] w fun e w' => e = .returned (.bool v) ∧ Ext w w' := by
  subst hv
  exact implSameNotation_any ⟨k, A, na, ca, B, nb, cb, S, ns, cs, P, np, cp, Q, nq, cq⟩ ⟨k', A', na', ca', B', nb', cb', S', ns', cs', P', np', cp', Q', nq', cq'⟩ D E w hI hJ
theorem specConvert_y (k : Int) (A : Option Addr) (na ca : Nat) (B : Option Addr) (nb cb : Nat) (S : Option Addr) (ns cs : Nat) (P : Option Addr) (np cp : Nat) (Q : Option Addr) (nq cq : Nat) (D : ND) (q : Int) (X : ND) (s : ByteArray) (r : Int) (hr : cnv D q = (X, s, r)) (w : World) (hI : NtR w ((⟨k, A, na, ca, B, nb, cb, S, ns, cs, P, np, cp, Q, nq, cq⟩) : NV) D) :
    Calls Tryz.prog 7 #[.agg #[.int .i64 k, .slice A na ca, .slice B nb cb, .slice S ns cs, .slice P np cp, .slice Q nq cq], .int .i64 q] w fun e w' => ∃ U : NV, e = .returned (.tuple #[U.val, .string s, .int .i64 r]) ∧ NtO w' w.heap.size w'.heap.size U X ∧ Ext w w' := by
  have h := specConvert_x k A na ca B nb cb S ns cs P np cp Q nq cq D q w hI
  rw [hr] at h
  exact h
theorem specNotationProps_y (k : Int) (A : Option Addr) (na ca : Nat) (B : Option Addr) (nb cb : Nat) (S : Option Addr) (ns cs : Nat) (P : Option Addr) (np cp : Nat) (Q : Option Addr) (nq cq : Nat) (D : ND) (r s : Int) (w : World) (hI : NtR w ((⟨k, A, na, ca, B, nb, cb, S, ns, cs, P, np, cp, Q, nq, cq⟩) : NV) D) (hS : np ≤ 1048576 ∧ nq ≤ 1048576) (hr : (if vnt D = true then npr D else 0) = r) (hs : (if vnt D = true then (0 : Int) else 1) = s) :
    Calls Tryz.prog 10 #[.agg #[.int .i64 k, .slice A na ca, .slice B nb cb, .slice S ns cs, .slice P np cp, .slice Q nq cq]] w fun e w' => e = .returned (.tuple #[.int .i64 r, .int .i64 s]) ∧ Ext w w' := specNotationProps_any ⟨k, A, na, ca, B, nb, cb, S, ns, cs, P, np, cp, Q, nq, cq⟩ D r s w hI hS hr hs
theorem specNotationBeats_y (k : Int) (A : Option Addr) (na ca : Nat) (B : Option Addr) (nb cb : Nat) (S : Option Addr) (ns cs : Nat) (P : Option Addr) (np cp : Nat) (Q : Option Addr) (nq cq : Nat) (D : ND) (r s : Int) (w : World) (hI : NtR w ((⟨k, A, na, ca, B, nb, cb, S, ns, cs, P, np, cp, Q, nq, cq⟩) : NV) D) (hS : np ≤ 1048576 ∧ nq ≤ 1048576) (hr : (if vnt D = true then nbt D else 0) = r) (hs : (if vnt D = true then (0 : Int) else 1) = s) :
    Calls Tryz.prog 12 #[.agg #[.int .i64 k, .slice A na ca, .slice B nb cb, .slice S ns cs, .slice P np cp, .slice Q nq cq]] w fun e w' => e = .returned (.tuple #[.int .i64 r, .int .i64 s]) ∧ Ext w w' := specNotationBeats_any ⟨k, A, na, ca, B, nb, cb, S, ns, cs, P, np, cp, Q, nq, cq⟩ D r s w hI hS hr hs
theorem specSameNotation_y (k : Int) (A : Option Addr) (na ca : Nat) (B : Option Addr) (nb cb : Nat) (S : Option Addr) (ns cs : Nat) (P : Option Addr) (np cp : Nat) (Q : Option Addr) (nq cq : Nat) (D : ND) (k' : Int) (A' : Option Addr) (na' ca' : Nat) (B' : Option Addr) (nb' cb' : Nat) (S' : Option Addr) (ns' cs' : Nat) (P' : Option Addr) (np' cp' : Nat) (Q' : Option Addr) (nq' cq' : Nat) (E : ND) (v : Bool) (hv : sme D E = v) (w : World) (hI : NtR w ((⟨k, A, na, ca, B, nb, cb, S, ns, cs, P, np, cp, Q, nq, cq⟩) : NV) D) (hJ : NtR w ((⟨k', A', na', ca', B', nb', cb', S', ns', cs', P', np', cp', Q', nq', cq'⟩) : NV) E) :
    Calls Tryz.prog 14 #[.agg #[.int .i64 k, .slice A na ca, .slice B nb cb, .slice S ns cs, .slice P np cp, .slice Q nq cq], .agg #[.int .i64 k', .slice A' na' ca', .slice B' nb' cb', .slice S' ns' cs', .slice P' np' cp', .slice Q' nq' cq']] w fun e w' => e = .returned (.bool v) ∧ Ext w w' := by
  subst hv
  exact specSameNotation_any ⟨k, A, na, ca, B, nb, cb, S, ns, cs, P, np, cp, Q, nq, cq⟩ ⟨k', A', na', ca', B', nb', cb', S', ns', cs', P', np', cp', Q', nq', cq'⟩ D E w hI hJ
theorem specValidNotation_y (k : Int) (A : Option Addr) (na ca : Nat) (B : Option Addr) (nb cb : Nat) (S : Option Addr) (ns cs : Nat) (P : Option Addr) (np cp : Nat) (Q : Option Addr) (nq cq : Nat) (D : ND) (v : Bool) (hv : vnt D = v) (w : World) (hI : NtR w ((⟨k, A, na, ca, B, nb, cb, S, ns, cs, P, np, cp, Q, nq, cq⟩) : NV) D) :
    Calls Tryz.prog 17 #[.agg #[.int .i64 k, .slice A na ca, .slice B nb cb, .slice S ns cs, .slice P np cp, .slice Q nq cq]] w fun e w' => e = .returned (.bool v) ∧ Ext w w' := specValidNotation_any ⟨k, A, na, ca, B, nb, cb, S, ns, cs, P, np, cp, Q, nq, cq⟩ D v w hI hv
theorem f6bigC_any (A : Option Addr) (n c : Nat) (w : World) (hn : n ≤ 9223372036854775807) :
    Calls Tryz.prog 4 #[.slice A n c] w fun e w' => e = .returned (.bool (decide (4096 < n))) ∧ w = w' := by
  by_cases h : 4096 < n
  · have hi : (4096 : Int) < n := by omega
    rw [decide_eq_true h]
    go_enter Tryz.func4, Tryz.ntmps4
    go_wp2
    go_ret
    exact ⟨rfl, rfl⟩
  · have hi : ¬ (4096 : Int) < n := by omega
    rw [decide_eq_false h]
    go_enter Tryz.func4, Tryz.ntmps4
    go_wp2
    go_ret
    exact ⟨rfl, rfl⟩
end Go.Proofs.YtbihbhdaenhdoaaGreat
