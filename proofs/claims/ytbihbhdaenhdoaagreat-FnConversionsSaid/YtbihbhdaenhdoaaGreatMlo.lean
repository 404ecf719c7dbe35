/- Multiplex patterns with one throw at each beat: contracts of multiOf, MultiOf, l04Single. No condition but the stated bounds. -/
import Derived.Test.YtbihbhdaenhdoaaGreatLop
import Derived.Test.YtbihbhdaenhdoaaGreatCla
import Derived.Deep.RegionLawGrows
namespace Go.Proofs.YtbihbhdaenhdoaaGreat
set_option linter.unusedVariables false
set_option linter.unusedSimpArgs false
open Go.ChangeShapes Go.WideShapes Go.ChangeAt Go.RowKit Go.Joins Go.Deep

/-- What hands back a struct of rows of numbers. -/
def RetMu (w : World) (n : Nat) (L : List (List Int)) (e : Ending) (w' : World) : Prop := ∃ A c, e = .returned (.agg #[.slice A n c]) ∧ LRow w' w.heap.size w'.heap.size A n c L ∧ Ext w w'
/-- Rows of one number each. -/
def wrp (xs : List Int) : List (List Int) := xs.map (fun x => [x])
theorem wrp_len (xs : List Int) : (wrp xs).length = xs.length := by simp [wrp]
theorem wrp_succ {xs : List Int} {k : Nat} (h : k < xs.length) : wrp (xs.take (k + 1)) = wrp (xs.take k) ++ [[xs[k]?.getD 0]] := by
  unfold wrp
  rw [List.take_add_one, List.getElem?_eq_getElem h, List.map_append]
  rfl
/-- A box that holds rows, and the rows. -/
structure MRows (w wr : World) (g lo : Nat) (L : List (List Int)) (k : Nat) : Prop where
  gt : g < lo
  sz : lo ≤ wr.heap.size
  X : Ext w wr
  low : w.heap.size ≤ lo
  fr : wr.frozen? ⟨g, 0, none⟩ = false
  box : ∃ A c, wr.cell? ⟨g, 0, none⟩ = some (.slice A k c) ∧ LRow wr lo wr.heap.size A k c L
theorem MRows.put {w W : World} {g lo k c : Nat} {L : List (List Int)} {A : Option Addr} (hgt : g < lo) (hwg : w.heap.size ≤ g) (hsz : lo ≤ W.heap.size) (hX : Ext w W) (hlo : w.heap.size ≤ lo) (hfr : W.frozen? ⟨g, 0, none⟩ = false) {u : Value} (hc : W.cell? ⟨g, 0, none⟩ = some u) (h : LRow W lo W.heap.size A k c L) : MRows w (W.setCell ⟨g, 0, none⟩ (.slice A k c)) g lo L k := by
  refine ⟨hgt, by simpa [World.setCell] using hsz, hX.set hwg _, hlo, by simpa using hfr, A, c, ?_, ?_⟩
  · exact World.cell?_setCell_same _ _ _ hc
  · have := h.far (p := ⟨g, 0, none⟩) (.inl hgt) (.slice A k c)
    simpa [World.setCell] using this
set_option maxHeartbeats 2000000 in
theorem multiOf_any (A : Option Addr) (n c : Nat) (xs : List Int) (w : World) (hI : Ints w A n xs) (hn : n ≤ 1000) :
    Calls Tryz.prog 62 #[.slice A n c] w (RetMu w n (wrp xs)) := by
  have HL := Lib.hid hI.len
  have HST : Hid (MRows w ((w.alloc (.cells #[.slice none 0 0] 27)).alloc (.cells #[.slice none 0 0] 27)) (w.heap.size + 1) (w.heap.size + 2) (wrp (xs.take 0)) 0) :=
    ⟨by omega, by simp, ((Ext.refl _).alloc _).alloc _, by omega, by go_simp, none, 0, by go_simp, LRow.nil _ _ _⟩
  go_enter Tryz.func62, Tryz.ntmps62
  go_wp2
  go_loopw [9] (fun i wr => ∃ k : Nat, k ≤ n ∧ i = .int .i64 k ∧ wr.cell? ⟨w.heap.size, 0, none⟩ = some (.slice none 0 0) ∧ wr.frozen? ⟨w.heap.size, 0, none⟩ = false ∧ MRows w wr (w.heap.size + 1) (w.heap.size + 2) (wrp (xs.take k)) k) (fun i _ => n - (intOf i).toNat)
  case atStart => exact ⟨0, Nat.zero_le _, rfl, by go_simp, by go_simp, HST.out⟩
  case round =>
    clear HST
    obtain ⟨k, hk, rfl, r0, s0, hm⟩ := hrel
    obtain ⟨-, hsz, hX, -, hfr, C, d, hc, hR⟩ := hm
    have q1 : w.heap.size < wr.heap.size := by omega
    have q2 : w.heap.size + 1 < wr.heap.size := by omega
    by_cases hlt : k < n
    · obtain ⟨b, off, rfl, hb, hcell⟩ := (hI.ext hX).at_ (by omega)
      have e0 := hcell k hlt
      have hki : (k : Int) < n := by omega
      have HS := Lib.hid (wrp_succ (xs := xs) (k := k) (by rw [HL.out]; exact hlt))
      clear hcell
      generalize xs[k]?.getD 0 = x at e0 HS
      have HR := Lib.hid hR
      clear hR
      go_wp2_with (at_builtin; refine appLL rfl _ _ rfl rfl HR.out hX (by omega) (((Ext.refl _).alloc _).alloc _) (by omega) rfl (heap_two2 _ _ _) rfl (row_one _ _ _) rfl (Nat.le_refl _) (by simp) ?_; intro A2 c2 w2 R2 hx2 hz2 hk2; (try simp only [World.alloc_size] at hz2); have b2 : w2.cell? ⟨w.heap.size + 1, 0, none⟩ = some (.slice C k d) := (hk2 _ 0 (by omega)).1.trans (by go_simp); have f2 : w2.frozen? ⟨w.heap.size + 1, 0, none⟩ = false := (hk2 _ 0 (by omega)).2.trans (by go_simp); have b3 : w2.cell? ⟨w.heap.size, 0, none⟩ = some (.slice none 0 0) := (hk2 _ 0 (by omega)).1.trans (by go_simp); have f3 : w2.frozen? ⟨w.heap.size, 0, none⟩ = false := (hk2 _ 0 (by omega)).2.trans (by go_simp))
      have hz3 := hx2.size
      have hz4 : w.heap.size + 2 ≤ w2.heap.size := by (try simp at hz2); omega
      go_roundw
      case rel => exact ⟨k + 1, by omega, by go_num, by go_simp, by go_simp, by rw [HS.out]; exact MRows.put (by omega) (by omega) hz4 hx2 (by omega) f2 b2 R2⟩
      case measure => simp [intOf]; omega
    · obtain rfl : k = n := by omega
      have HR : Hid (LRow wr (w.heap.size + 2) wr.heap.size C k d (wrp xs)) := by
        have e : xs.take k = xs := List.take_of_length_le (by rw [HL.out]; exact Nat.le_refl _)
        rw [e] at hR
        exact hR
      clear hR
      go_wp2
      refine bodyPost_ret (v := .agg #[.slice C k d]) (by simp [results, Tryz.results62, go_sem, *]) rfl ⟨C, d, rfl, ?_, (by with_reducible (repeat (first | exact Ext.refl _ | apply Ext.drewN | apply Ext.drew | apply Ext.alloc | (refine Ext.set ?_ (by first | (simp; done) | (simp; omega) | omega) _) | (refine Ext.trans ?_ (by assumption)))))⟩
      exact ((HR.out.far (p := ⟨w.heap.size, 0, none⟩) (.inl (by show w.heap.size < _; omega)) (.slice C k d)).wide (by omega) (by simp [World.setCell]))
theorem heap_two2d (w : World) (o o' : Obj) : ((w.alloc o).alloc o').drew.heap[w.heap.size + 1]? = some o' := heap_two2 w o o'
theorem row_oned (W : World) (x : Int) (o : Obj) : Row (((W.alloc (.cells #[.int .i64 x] 2)).alloc o).drew) W.heap.size (W.heap.size + 1) 2 1 (some ⟨W.heap.size, 0, none⟩) 1 1 [x] := (row_one W x o).ext ((Ext.refl _).drew)
set_option maxHeartbeats 2000000 in
theorem l04Single_any (A : Option Addr) (n c : Nat) (xs : List Int) (w : World) (hI : Ints w A n xs) (hn : n ≤ 1000) :
    Calls Tryz.prog 76 #[.slice A n c] w (RetMu w n (wrp xs)) := by
  have HL := Lib.hid hI.len
  have HST : Hid (MRows w ((w.alloc (.cells #[.slice none 0 0] 27)).alloc (.cells #[.slice none 0 0] 27)) (w.heap.size + 1) (w.heap.size + 2) (wrp (xs.take 0)) 0) :=
    ⟨by omega, by simp, ((Ext.refl _).alloc _).alloc _, by omega, by go_simp, none, 0, by go_simp, LRow.nil _ _ _⟩
  go_enter Tryz.func76, Tryz.ntmps76
  go_wp2
  go_loopw [4] (fun i wr => ∃ k : Nat, k ≤ n ∧ i = .int .i64 k ∧ wr.cell? ⟨w.heap.size, 0, none⟩ = some (.slice none 0 0) ∧ wr.frozen? ⟨w.heap.size, 0, none⟩ = false ∧ MRows w wr (w.heap.size + 1) (w.heap.size + 2) (wrp (xs.take k)) k) (fun i _ => n - (intOf i).toNat)
  case atStart => exact ⟨0, Nat.zero_le _, rfl, by go_simp, by go_simp, HST.out⟩
  case round =>
    clear HST
    obtain ⟨k, hk, rfl, r0, s0, hm⟩ := hrel
    obtain ⟨-, hsz, hX, -, hfr, C, d, hc, hR⟩ := hm
    have q1 : w.heap.size < wr.heap.size := by omega
    have q2 : w.heap.size + 1 < wr.heap.size := by omega
    by_cases hlt : k < n
    · obtain ⟨b, off, rfl, hb, hcell⟩ := (hI.ext hX).at_ (by omega)
      have e0 := hcell k hlt
      have hki : (k : Int) < n := by omega
      have HS := Lib.hid (wrp_succ (xs := xs) (k := k) (by rw [HL.out]; exact hlt))
      clear hcell
      generalize xs[k]?.getD 0 = x at e0 HS
      have HR := Lib.hid hR
      clear hR
      go_wp2
      go_region_law (refine stepLL2 rfl _ _ rfl rfl HR.out hX (by omega) ((((Ext.refl _).alloc _).alloc _).drew) (by omega) rfl (heap_two2d _ _ _) rfl (row_oned _ _ _) rfl (Nat.le_refl _) (by simp) ?_; intro A2 c2 w2 R2 hx2 hz2 hk2; (try simp only [World.alloc_size] at hz2); have b2 : w2.cell? ⟨w.heap.size + 1, 0, none⟩ = some (.slice C k d) := (hk2 _ 0 (by omega)).1.trans (by go_simp); have f2 : w2.frozen? ⟨w.heap.size + 1, 0, none⟩ = false := (hk2 _ 0 (by omega)).2.trans (by go_simp); have b3 : w2.cell? ⟨w.heap.size, 0, none⟩ = some (.slice none 0 0) := (hk2 _ 0 (by omega)).1.trans (by go_simp); have f3 : w2.frozen? ⟨w.heap.size, 0, none⟩ = false := (hk2 _ 0 (by omega)).2.trans (by go_simp))
      all_goals
        have hz3 := hx2.size
        have hz4 : w.heap.size + 2 ≤ w2.heap.size := by (try simp at hz2); omega
        have HP : Hid (MRows w (w2.setCell ⟨w.heap.size + 1, 0, none⟩ (.slice A2 (k + 1) c2)) (w.heap.size + 1) (w.heap.size + 2) (wrp (xs.take (k + 1))) (k + 1)) := by show MRows _ _ _ _ _ _; rw [HS.out]; exact MRows.put (by omega) (by omega) hz4 hx2 (by omega) f2 b2 R2
        clear R2 hk2
        go_wp2
        go_roundw
        case rel => exact ⟨k + 1, by omega, by go_num, by go_simp, by go_simp, HP.out⟩
        case measure => simp [intOf]; omega
    · obtain rfl : k = n := by omega
      have HR : Hid (LRow wr (w.heap.size + 2) wr.heap.size C k d (wrp xs)) := by
        have e : xs.take k = xs := List.take_of_length_le (by rw [HL.out]; exact Nat.le_refl _)
        rw [e] at hR
        exact hR
      clear hR
      go_wp2
      refine bodyPost_ret (v := .agg #[.slice C k d]) (by simp [results, Tryz.results76, go_sem, *]) rfl ⟨C, d, rfl, ?_, (by with_reducible (repeat (first | exact Ext.refl _ | apply Ext.drewN | apply Ext.drew | apply Ext.alloc | (refine Ext.set ?_ (by first | (simp; done) | (simp; omega) | omega) _) | (refine Ext.trans ?_ (by assumption)))))⟩
      exact ((HR.out.far (p := ⟨w.heap.size, 0, none⟩) (.inl (by show w.heap.size < _; omega)) (.slice C k d)).wide (by omega) (by simp [World.setCell]))
/-- What hands back a struct of rows, and a code. -/
def RetMuC (w : World) (n : Nat) (L : List (List Int)) (r : Int) (e : Ending) (w' : World) : Prop := ∃ A c, e = .returned (.tuple #[.agg #[.slice A n c], .int .i64 r]) ∧ LRow w' w.heap.size w'.heap.size A n c L ∧ Ext w w'
set_option maxHeartbeats 2000000 in
theorem MultiOf_any (A : Option Addr) (n c : Nat) (xs : List Int) (w : World) (hI : Ints w A n xs) (hV : vpat xs = true) (hn : n ≤ 1000) :
    Calls Tryz.prog 24 #[.slice A n c] w (RetMuC w n (wrp xs) 0) := by
  go_enter Tryz.func24, Tryz.ntmps24
  go_wp2_with fail
  (with_reducible refine (ValidPattern_is A n c xs _ hV _ (hI.ext (by with_reducible (repeat (first | exact Ext.refl _ | apply Ext.drewN | apply Ext.drew | apply Ext.alloc | (refine Ext.set ?_ (by first | (simp; done) | (simp; omega) | omega) _) | (refine Ext.trans ?_ (by assumption))))))).mono ?_)
  rintro e w1 ⟨rfl, hx⟩
  have hz1 := hx.size
  (try simp at hz1)
  have hE : Ext w w1 := Ext.trans (by with_reducible (repeat (first | exact Ext.refl _ | apply Ext.drewN | apply Ext.drew | apply Ext.alloc | (refine Ext.set ?_ (by first | (simp; done) | (simp; omega) | omega) _) | (refine Ext.trans ?_ (by assumption))))) hx
  have b1 : w1.cell? ⟨w.heap.size, 0, none⟩ = some (.slice none 0 0) := hx.cell (by simp) (by go_simp)
  have f1 : w1.frozen? ⟨w.heap.size, 0, none⟩ = false := (hx.cells.2 w.heap.size 0 (by simp)).trans (by go_simp)
  clear hx
  go_wp2_with fail
  (with_reducible refine (multiOf_any A n c xs _ (hI.ext hE) hn).mono ?_)
  rintro e w2 ⟨C, d, rfl, hR, hx⟩
  have hz2 := hx.size
  have hq : w.heap.size < w1.heap.size := by omega
  have hE2 := hE.trans hx
  have b2 := hx.cell hq b1
  have f2 : w2.frozen? ⟨w.heap.size, 0, none⟩ = false := (hx.cells.2 w.heap.size 0 hq).trans f1
  have HR := Lib.hid hR
  clear hR hx
  go_wp2
  refine bodyPost_ret (v := .tuple #[.agg #[.slice C n d], .int .i64 0]) (by simp [results, Tryz.results24, go_sem, *]) rfl ⟨C, d, rfl, ?_, (by with_reducible (repeat (first | exact Ext.refl _ | apply Ext.drewN | apply Ext.drew | apply Ext.alloc | (refine Ext.set ?_ (by first | (simp; done) | (simp; omega) | omega) _) | (refine Ext.trans ?_ (by assumption)))))⟩
  exact ((HR.out.far (p := ⟨w.heap.size, 0, none⟩) (.inl (by show w.heap.size < _; omega)) (.slice C n d)).wide (by omega) (by simp [World.setCell]))
end Go.Proofs.YtbihbhdaenhdoaaGreat
