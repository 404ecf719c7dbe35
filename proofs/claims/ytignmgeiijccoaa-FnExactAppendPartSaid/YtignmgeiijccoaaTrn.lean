/- Contracts of TurnRoutine, the program's and the reference's. No condition. -/
import Derived.Test.YtignmgeiijccoaaRtm5
import Derived.Test.YtignmgeiijccoaaVrt
import Derived.BigRegion
namespace Go.Proofs.Ytignmgeiijccoaa
set_option linter.unusedVariables false
set_option linter.unusedSimpArgs false
open Go.ChangeShapes Go.WideShapes Go.ChangeAt Go.RowKit Go.Joins Go.Deep

/-- A routine is valid. -/
def vrtb (h : Int) (ps : List (List Int × Int)) : Bool := btw h 1 10 && (btw ps.length 1 8 && (List.range ps.length).all (fun i => vprt (pt ps i) (tm ps i) h && decide (prp (pt ps i) = prp (pt ps 0))))
theorem vrtb_iff (h : Int) (ps : List (List Int × Int)) : vrtb h ps = true ↔ vrt h ps := by
  unfold vrtb vrt
  simp only [Bool.and_eq_true, List.all_eq_true, List.mem_range, decide_eq_true_eq]
theorem vrt_len {h : Int} {ps : List (List Int × Int)} (k : vrtb h ps = true) : 1 ≤ ps.length ∧ ps.length ≤ 8 ∧ ∀ i, i < ps.length → (pt ps i).length ≤ 12 := by
  obtain ⟨_, k1, k2⟩ := (vrtb_iff h ps).1 k
  have := btw_iff.1 k1
  refine ⟨by omega, by omega, fun i hi => ?_⟩
  exact ((thr_iff.1 (vpat_thr (vprt_pat (k2 i hi).1))).2).2
theorem bdP.len {ps : List (List Int × Int)} (h : bdP ps) : ∀ i, i < ps.length → (pt ps i).length ≤ 1048576 := fun i hi => (h i hi).1
/-- The routine turned, and a code. -/
def trn (h : Int) (ps : List (List Int × Int)) : Int × List (List Int × Int) × Int := if vrtb h ps then (h, ps.reverse, 0) else (0, [], 1)
theorem pt_rev {ps : List (List Int × Int)} {i : Nat} (h : i < ps.length) : pt ps.reverse i = pt ps (ps.length - 1 - i) ∧ tm ps.reverse i = tm ps (ps.length - 1 - i) := by
  unfold pt tm
  rw [List.getElem?_reverse h]
  exact ⟨rfl, rfl⟩
theorem trn_bd {h : Int} {ps : List (List Int × Int)} {hh : Int} {ys : List (List Int × Int)} {r : Int} (hy : trn h ps = (hh, ys, r)) (hb : bdP ps) (hn : ps.length ≤ 1048576) : ys.length ≤ 1048576 ∧ bdP ys := by
  unfold trn at hy
  split at hy
  · simp only [Prod.mk.injEq] at hy
    obtain ⟨_, rfl, _⟩ := hy
    refine ⟨by simpa using hn, fun i hi => ?_⟩
    rw [List.length_reverse] at hi
    rw [(pt_rev hi).1, (pt_rev hi).2]
    exact hb _ (by omega)
  · simp only [Prod.mk.injEq] at hy
    obtain ⟨_, rfl, _⟩ := hy
    exact ⟨by simp, fun i hi => absurd hi (by simp)⟩
/-- What hands back a routine and a code. -/
def RetRou (w : World) (h : Int) (ys : List (List Int × Int)) (r : Int) (e : Ending) (w' : World) : Prop :=
  ∃ A n c, e = .returned (.tuple #[.agg #[.int .i64 h, .slice A n c], .int .i64 r]) ∧ PRow w' w.heap.size w'.heap.size A n c ys ∧ Ext w w'
theorem RetRou.of_nil {w w' : World} {r : Int} {e : Ending} (h : e = .returned (.tuple #[.agg #[.int .i64 0, .slice none 0 0], .int .i64 r])) (hx : Ext w w') : RetRou w 0 [] r e w' :=
  ⟨none, 0, 0, h, PRow.nil _ _ _, hx⟩
/-- f, with its values at i and k exchanged. -/
def sw {α : Type} (i k : Nat) (f : Nat → α) : Nat → α := fun j => if j = i then f k else if j = k then f i else f j
theorem sw_at {α : Type} {i k : Nat} {f : Nat → α} : sw i k f i = f k := if_pos rfl
theorem sw_to {α : Type} {i k : Nat} {f : Nat → α} (h : k ≠ i) : sw i k f k = f i := by unfold sw; rw [if_neg h, if_pos rfl]
theorem sw_ne {α : Type} {i k j : Nat} {f : Nat → α} (h : j ≠ i) (h2 : j ≠ k) : sw i k f j = f j := by unfold sw; rw [if_neg h, if_neg h2]
theorem sw_idx {i k n j : Nat} (hi : i < n) (hk : k < n) (hj : j < n) : sw i k id j < n := by unfold sw; simp only [id]; split <;> (try split) <;> omega
theorem sw_eq {α : Type} (i k : Nat) (f : Nat → α) (j : Nat) : sw i k f j = f (sw i k id j) := by unfold sw; simp only [id]; split <;> (try split) <;> rfl
theorem sw_inj {i k j j' : Nat} (h : sw i k id j = sw i k id j') : j = j' := by unfold sw at h; simp only [id] at h; split at h <;> split at h <;> (try split at h) <;> (try split at h) <;> omega
theorem PRowF.swap {w : World} {lo hi g n c : Nat} {H : Nat → Option Addr × Nat} {X : Nat → List Int} {T : Nat → Int} (h : PRowF w lo hi (some ⟨g, 0, none⟩) n c H X T) {i k : Nat} (hi' : i < n) (hk : k < n) (hne : k ≠ i) :
    PRowF ((((w.setCell ⟨g, i * 2, none⟩ (.slice (H k).1 (X k).length (H k).2)).setCell ⟨g, i * 2 + 1, none⟩ (.int .i64 (T k))).setCell ⟨g, k * 2, none⟩ (.slice (H i).1 (X i).length (H i).2)).setCell ⟨g, k * 2 + 1, none⟩ (.int .i64 (T i))) lo hi (some ⟨g, 0, none⟩) n c (sw i k H) (sw i k X) (sw i k T) := by
  obtain ⟨cs, hr, hc⟩ := h.row
  have hl := hr.len
  refine ⟨⟨_, (((hr.store _ _).store _ _).store _ _).store _ _, fun j hj => ?_⟩, fun j hj => ?_, fun j j' hj hj' hjj g' => ?_, fun j hj g' => ?_⟩
  · by_cases e : j = i
    · subst e
      rw [sw_at, sw_at, sw_at]
      refine ⟨?_, ?_⟩
      · rw [List.getElem?_set_ne (by omega), List.getElem?_set_ne (by omega), List.getElem?_set_ne (by omega), List.getElem?_set_self (by omega)]
      · rw [List.getElem?_set_ne (by omega), List.getElem?_set_ne (by omega), List.getElem?_set_self (by rw [List.length_set]; omega)]
    · by_cases e2 : j = k
      · subst e2
        rw [sw_to hne, sw_to hne, sw_to hne]
        refine ⟨?_, ?_⟩
        · rw [List.getElem?_set_ne (by omega), List.getElem?_set_self (by rw [List.length_set, List.length_set]; omega)]
        · rw [List.getElem?_set_self (by rw [List.length_set, List.length_set, List.length_set]; omega)]
      · rw [sw_ne e e2, sw_ne e e2, sw_ne e e2]
        refine ⟨?_, ?_⟩
        · rw [List.getElem?_set_ne (by omega), List.getElem?_set_ne (by omega), List.getElem?_set_ne (by omega), List.getElem?_set_ne (by omega)]; exact (hc j hj).1
        · rw [List.getElem?_set_ne (by omega), List.getElem?_set_ne (by omega), List.getElem?_set_ne (by omega), List.getElem?_set_ne (by omega)]; exact (hc j hj).2
  · rw [sw_eq i k H, sw_eq i k X]
    have hs := sw_idx hi' hk hj
    exact ((((h.rows _ hs).otherCell (p := ⟨g, i * 2, none⟩) (fun e => h.alone _ hs g e rfl) _).otherCell (p := ⟨g, i * 2 + 1, none⟩) (fun e => h.alone _ hs g e rfl) _).otherCell (p := ⟨g, k * 2, none⟩) (fun e => h.alone _ hs g e rfl) _).otherCell (p := ⟨g, k * 2 + 1, none⟩) (fun e => h.alone _ hs g e rfl) _
  · rw [sw_eq i k H, sw_eq i k H]
    exact h.apart _ _ (sw_idx hi' hk hj) (sw_idx hi' hk hj') (fun e => hjj (sw_inj e)) g'
  · rw [sw_eq i k H]
    exact h.alone _ (sw_idx hi' hk hj) g'
/-- The first and last j parts are exchanged. -/
def half {α : Type} (f : Nat → α) (n j : Nat) : Nat → α := fun i => if i < j ∨ n - 1 < i + j then f (n - 1 - i) else f i
theorem half_zero {α : Type} (f : Nat → α) (n : Nat) {i : Nat} (h : i < n) : half f n 0 i = f i := by unfold half; rw [if_neg (by omega)]
theorem half_step {α : Type} (f : Nat → α) {n j : Nat} (hj : j + j + 1 < n) {i : Nat} (hi : i < n) : sw j (n - 1 - j) (half f n j) i = half f n (j + 1) i := by
  unfold sw half
  by_cases e : i = j
  · subst e
    rw [if_pos rfl, if_neg (by omega), if_pos (by omega)]
  · rw [if_neg e]
    by_cases e2 : i = n - 1 - j
    · subst e2
      rw [if_pos rfl, if_neg (by omega), if_pos (by omega)]
      congr 1
      omega
    · rw [if_neg e2]
      by_cases e3 : i < j ∨ n - 1 < i + j
      · rw [if_pos e3, if_pos (by omega)]
      · rw [if_neg e3, if_neg (by omega)]
theorem half_all {α : Type} (f : Nat → α) {n j : Nat} (hj : n ≤ j + j + 1) {i : Nat} (hi : i < n) : half f n j i = f (n - 1 - i) := by
  unfold half
  split
  · rfl
  · congr 1; omega
theorem sw_comm {α : Type} (i k : Nat) (f : Nat → α) (j : Nat) : sw k i f j = sw i k f j := by
  unfold sw
  by_cases e : j = k
  · subst e
    rw [if_pos rfl]
    by_cases e2 : j = i
    · subst e2; rw [if_pos rfl]
    · rw [if_neg e2, if_pos rfl]
  · rw [if_neg e]
    by_cases e2 : j = i
    · rw [if_pos e2, if_pos e2]
    · rw [if_neg e2, if_neg e2, if_neg e]
theorem rev_push {ps : List (List Int × Int)} {n k : Nat} (hl : ps.length = n) (h : k < n) : ps.reverse.take k ++ [(pt ps (n - 1 - k), tm ps (n - 1 - k))] = ps.reverse.take (k + 1) := by
  have h1 := pt_rev (ps := ps) (i := k) (by omega)
  rw [hl] at h1
  rw [← h1.1, ← h1.2]
  exact take_push (by rw [List.length_reverse]; omega)
set_option maxHeartbeats 4000000 in
theorem specTurnRoutine_is (A : Option Addr) (n c : Nat) (ps : List (List Int × Int)) (h : Int) (w : World) (hP : Parts w A n ps) {hh : Int} {ys : List (List Int × Int)} {r : Int} (hy : trn h ps = (hh, ys, r)) :
    Calls Try.prog 14 #[.agg #[.int .i64 h, .slice A n c]] w (RetRou w hh ys r) := by
  have hlen := hP.len
  obtain ⟨v, hv⟩ : ∃ v, vrtb h ps = v := ⟨_, rfl⟩
  have HV : Hid (v = true ↔ vrt h ps) := by show _ ↔ _; rw [← hv]; exact vrtb_iff h ps
  cases v
  · unfold trn at hy
    rw [if_neg (by rw [hv]; simp)] at hy
    simp only [Prod.mk.injEq] at hy
    obtain ⟨rfl, rfl, rfl⟩ := hy
    clear hv
    go_enter Try.func14, Try.ntmps14
    go_wp2_with fail
    (with_reducible refine (l19Ok_is _ A n c ps h _ (by simp) (by simp) (hP.ext (by with_reducible (repeat (first | exact Ext.refl _ | apply Ext.drewN | apply Ext.drew | apply Ext.alloc | (refine Ext.set ?_ (by first | (simp; done) | (simp; omega) | omega) _) | (refine Ext.trans ?_ (by assumption)))))) false HV.out).mono ?_)
    rintro e w1 ⟨rfl, q, rfl⟩
    go_wp2
    exact bodyPost_ret (v := .tuple #[.agg #[.int .i64 0, .slice none 0 0], .int .i64 1]) (by simp [results, Try.results14, go_sem, *]) rfl (RetRou.of_nil rfl (by with_reducible (repeat (first | exact Ext.refl _ | apply Ext.drewN | apply Ext.drew | apply Ext.alloc | (refine Ext.set ?_ (by first | (simp; done) | (simp; omega) | omega) _) | (refine Ext.trans ?_ (by assumption))))))
  · have hl3 := vrt_len hv
    unfold trn at hy
    rw [if_pos hv] at hy
    simp only [Prod.mk.injEq] at hy
    obtain ⟨rfl, rfl, rfl⟩ := hy
    rw [hlen] at hl3
    obtain ⟨hn1, hn8, hlm⟩ := hl3
    have HL := Lib.hid hlm
    have HVT := Lib.hid (HV.out.1 rfl)
    clear hv hlm HV
    go_enter Try.func14, Try.ntmps14
    go_wp2_with fail
    (with_reducible refine (l19Ok_is _ A n c ps h _ (by simp) (by simp) (hP.ext (by with_reducible (repeat (first | exact Ext.refl _ | apply Ext.drewN | apply Ext.drew | apply Ext.alloc | (refine Ext.set ?_ (by first | (simp; done) | (simp; omega) | omega) _) | (refine Ext.trans ?_ (by assumption)))))) true ⟨fun _ => HVT.out, fun _ => rfl⟩).mono ?_)
    rintro e w1 ⟨rfl, q, rfl⟩
    go_wp2
    go_loopw [5] (fun i wr => ∃ (k : Nat) (A1 : Option Addr) (c1 : Nat), k ≤ n ∧ i = .int .i64 ((n : Int) - 1 - k) ∧ Ext w wr ∧ wr.cell? ⟨w.heap.size, 1, none⟩ = some (.slice A n c) ∧ (∀ o, wr.frozen? ⟨w.heap.size + 1, o, none⟩ = false) ∧ wr.cell? ⟨w.heap.size + 1, 0, none⟩ = some (.int .i64 0) ∧ wr.cell? ⟨w.heap.size + 1, 1, none⟩ = some (.slice none 0 0) ∧ Outs wr (w.heap.size + 1 + 1) (w.heap.size + 1 + 1 + 1) h k (ps.reverse.take k) A1 c1) (fun i _ => (intOf i + 1).toNat)
    case atStart =>
      refine ⟨0, none, 0, Nat.zero_le _, by go_num, (by with_reducible (repeat (first | exact Ext.refl _ | apply Ext.drewN | apply Ext.drew | apply Ext.alloc | (refine Ext.set ?_ (by first | (simp; done) | (simp; omega) | omega) _) | (refine Ext.trans ?_ (by assumption))))), by go_simp, fun o => by go_simp, by go_simp, by go_simp, ⟨by go_simp, by go_simp, fun o => by go_simp, by omega, by simp, ?_⟩⟩
      simpa using PRow.nil _ _ _
    case round =>
      obtain ⟨k, A1, c1, hk, rfl, hx, b1, r2, r0, r1, hO⟩ := hrel
      have hOc0 := hO.c0
      have hOc1 := hO.c1
      have hOf := hO.fz
      have hOle := hO.le
      have g2 : w.heap.size + 1 + 1 < wr.heap.size := by omega
      have g0 : w.heap.size < wr.heap.size := by omega
      have g1 : w.heap.size + 1 < wr.heap.size := by omega
      by_cases hlt : k < n
      · obtain ⟨b, off, hA, hb, hcell⟩ := (hP.ext hx).at_ (by omega)
        subst hA
        obtain ⟨p, hp⟩ : ∃ p : Nat, n - 1 - k = p := ⟨_, rfl⟩
        have hpn : p < n := by omega
        have hki : (n : Int) - 1 - k = (p : Int) := by omega
        have hpi : (p : Int) < n := by omega
        obtain ⟨B, m, d, e0, e1, hI⟩ := hcell p hpn
        have hlm := hI.len
        have hmB : m ≤ 1000 := by have := HL.out p hpn; omega
        clear hcell
        have ht0 := rev_push hlen hlt
        rw [hp] at ht0
        have HT := Lib.hid ht0
        clear ht0
        obtain ⟨t, ht⟩ : ∃ t, tm ps p = t := ⟨_, rfl⟩
        rw [ht] at e1 HT
        have HO := Lib.hid hO
        clear hO
        rw [hki]
        go_wp2
        go_region_law (first | (go_simp; go_at_call 34; (with_reducible refine (l19Own_any b (off + p * 2) B m d (pt ps p) t _ (by first | exact hb | (simp; exact hb)) (by go_simp) (by go_simp) (hI.ext (by with_reducible (repeat (first | exact Ext.refl _ | apply Ext.drewN | apply Ext.drew | apply Ext.alloc | (refine Ext.set ?_ (by first | (simp; done) | (simp; omega) | omega) _) | (refine Ext.trans ?_ (by assumption)))))) (by omega)).mono ?_); rintro e w2 ⟨A2, c2, rfl, R2, hx2⟩; have q2 : wr.heap.size ≤ w2.heap.size := Nat.le_trans (by first | (simp; done) | (simp; omega) | omega) hx2.size; have q3 : w.heap.size + 1 + 1 < w2.heap.size := Nat.lt_of_lt_of_le g2 q2; have k1 : w2.cell? ⟨w.heap.size + 1 + 1, 1, none⟩ = some (.slice A1 k c1) := hx2.cell (by first | (simp; done) | (simp; omega) | omega) (by go_simp); have hE2 : Ext wr w2 := Ext.trans (by with_reducible (repeat (first | exact Ext.refl _ | apply Ext.drewN | apply Ext.drew | apply Ext.alloc | (refine Ext.set ?_ (by first | (simp; done) | (simp; omega) | omega) _) | (refine Ext.trans ?_ (by assumption))))) hx2; have HX2 := Lib.hid hE2) | (refine stepP (by rfl) _ _ (by rfl) (by rfl) (HO.out.P.ext (Ext.alloc HX2.out _)) (by omega) (by rfl) (heap_alloc_new _ _) (by rfl) (Row.ext (lo := wr.heap.size) (hi := w2.heap.size) (by simpa using R2) (Ext.alloc (Ext.refl _) _)) hlm (Nat.le_refl _) (by first | (simp; done) | (simp; omega) | omega) hOle q2 ?_; intro A3 c3 w3 P3 hg3; obtain ⟨v1, v2, v3⟩ := ((HO.out.ext HX2.out).ext (Ext.alloc (Ext.refl _) _)).push P3 hg3))
        all_goals (obtain ⟨x1, x2⟩ := Outs.next hx HO.out (hE2.alloc _) hg3 (Nat.le_of_lt (by omega)) (.slice A3 (k + 1) c3); obtain ⟨y1, y2⟩ := x2 (w.heap.size + 1) (by omega) (by omega); obtain ⟨z1, z2⟩ := x2 (w.heap.size) (by omega) (by omega))
        all_goals (rw [HT.out] at v3)
        all_goals (have hpk : (p : Int) - 1 = (n : Int) - 1 - ((k + 1 : Nat) : Int) := by omega)
        all_goals (go_wp2; go_roundw)
        all_goals first | (refine ⟨k + 1, A3, c3, ?_, ?_, x1, (z1 1).trans b1, fun o => (y2 o).trans (r2 o), (y1 0).trans r0, (y1 1).trans r1, v3⟩ <;> (first | omega | (go_num; done) | (congr 1; done) | (congr 1; omega))) | (simp [intOf]; done) | (simp [intOf]; omega) | trace_state
      · obtain rfl : k = n := by omega
        have htk : ps.reverse.take k = ps.reverse := List.take_of_length_le (by simp; omega)
        rw [htk] at hO
        have HO := Lib.hid hO
        clear hO
        have hki : (k : Int) - 1 - k = -1 := by omega
        rw [hki]
        go_wp2
        refine bodyPost_ret (v := .tuple #[.agg #[.int .i64 h, .slice A1 k c1], .int .i64 0]) (by simp [results, Try.results14, go_sem, *]) rfl ⟨A1, k, c1, rfl, ?_, (by with_reducible (repeat (first | exact Ext.refl _ | apply Ext.drewN | apply Ext.drew | apply Ext.alloc | (refine Ext.set ?_ (by first | (simp; done) | (simp; omega) | omega) _) | (refine Ext.trans ?_ (by assumption)))))⟩
        have := (HO.out.P.far (p := ⟨w.heap.size + 1, 0, none⟩) (.inl (by show w.heap.size + 1 < w.heap.size + 1 + 1 + 1; omega)) (.int .i64 h)).far (p := ⟨w.heap.size + 1, 1, none⟩) (.inl (by show w.heap.size + 1 < w.heap.size + 1 + 1 + 1; omega)) (.slice A1 k c1)
        exact this.wide (by omega) (by simp [World.setCell])
set_option maxHeartbeats 4000000 in
theorem implTurnRoutine_is (A : Option Addr) (n c : Nat) (ps : List (List Int × Int)) (h : Int) (w : World) (hP : Parts w A n ps) {hh : Int} {ys : List (List Int × Int)} {r : Int} (hy : trn h ps = (hh, ys, r)) :
    Calls Try.prog 15 #[.agg #[.int .i64 h, .slice A n c]] w (RetRou w hh ys r) := by
  have hlen := hP.len
  obtain ⟨v, hv⟩ : ∃ v, vrtb h ps = v := ⟨_, rfl⟩
  have HV : Hid (v = true ↔ vrt h ps) := by show _ ↔ _; rw [← hv]; exact vrtb_iff h ps
  cases v
  · unfold trn at hy
    rw [if_neg (by rw [hv]; simp)] at hy
    simp only [Prod.mk.injEq] at hy
    obtain ⟨rfl, rfl, rfl⟩ := hy
    clear hv
    go_enter Try.func15, Try.ntmps15
    go_wp2_with fail
    (with_reducible refine (implValidRoutine_is A n c ps h _ (hP.ext (by with_reducible (repeat (first | exact Ext.refl _ | apply Ext.drewN | apply Ext.drew | apply Ext.alloc | (refine Ext.set ?_ (by first | (simp; done) | (simp; omega) | omega) _) | (refine Ext.trans ?_ (by assumption)))))) false HV.out).mono ?_)
    rintro e w1 ⟨rfl, hx⟩
    have hz := hx.size
    (try simp at hz)
    have q1 : w.heap.size + 1 < w1.heap.size := by omega
    have k1 : ∀ o, w1.cell? ⟨w.heap.size + 1, o, none⟩ = _ := fun o => hx.cells.1 _ o (by first | (simp; done) | (simp; omega) | omega)
    have f1 : ∀ o, w1.frozen? ⟨w.heap.size + 1, o, none⟩ = _ := fun o => hx.cells.2 _ o (by first | (simp; done) | (simp; omega) | omega)
    go_wp2
    exact bodyPost_ret (v := .tuple #[.agg #[.int .i64 0, .slice none 0 0], .int .i64 1]) (by simp [results, Try.results15, go_sem, *]) rfl (RetRou.of_nil rfl (by with_reducible (repeat (first | exact Ext.refl _ | apply Ext.drewN | apply Ext.drew | apply Ext.alloc | (refine Ext.set ?_ (by first | (simp; done) | (simp; omega) | omega) _) | (refine Ext.trans ?_ (by assumption))))))
  · have hl3 := vrt_len hv
    unfold trn at hy
    rw [if_pos hv] at hy
    simp only [Prod.mk.injEq] at hy
    obtain ⟨rfl, rfl, rfl⟩ := hy
    rw [hlen] at hl3
    obtain ⟨hn1, hn8, hlm⟩ := hl3
    have HL := Lib.hid hlm
    have HVT := Lib.hid (HV.out.1 rfl)
    clear hv hlm HV
    go_enter Try.func15, Try.ntmps15
    go_wp2_with fail
    (with_reducible refine (implValidRoutine_is A n c ps h _ (hP.ext (by with_reducible (repeat (first | exact Ext.refl _ | apply Ext.drewN | apply Ext.drew | apply Ext.alloc | (refine Ext.set ?_ (by first | (simp; done) | (simp; omega) | omega) _) | (refine Ext.trans ?_ (by assumption)))))) true ⟨fun _ => HVT.out, fun _ => rfl⟩).mono ?_)
    rintro e w1 ⟨rfl, hx⟩
    have hz := hx.size
    (try simp at hz)
    have q0 : w.heap.size < w1.heap.size := by omega
    have q1 : w.heap.size + 1 < w1.heap.size := by omega
    have k0 : ∀ o, w1.cell? ⟨w.heap.size, o, none⟩ = _ := fun o => hx.cells.1 _ o (by first | (simp; done) | (simp; omega) | omega)
    have k1 : ∀ o, w1.cell? ⟨w.heap.size + 1, o, none⟩ = _ := fun o => hx.cells.1 _ o (by first | (simp; done) | (simp; omega) | omega)
    have f1 : ∀ o, w1.frozen? ⟨w.heap.size + 1, o, none⟩ = _ := fun o => hx.cells.2 _ o (by first | (simp; done) | (simp; omega) | omega)
    have hE1 : Ext w w1 := Ext.trans (by with_reducible (repeat (first | exact Ext.refl _ | apply Ext.drewN | apply Ext.drew | apply Ext.alloc | (refine Ext.set ?_ (by first | (simp; done) | (simp; omega) | omega) _) | (refine Ext.trans ?_ (by assumption))))) hx
    go_wp2_with fail
    (with_reducible refine (copiedR_any A n c ps h _ (hP.ext hE1) (by omega) (fun i hi => by have := HL.out i hi; omega)).mono ?_)
    rintro e w2 ⟨A1, c1, rfl, R1, hx2⟩
    have hz2 := hx2.size
    have q2 : w.heap.size + 1 < w2.heap.size := by omega
    have k2 : ∀ o, w2.cell? ⟨w.heap.size + 1, o, none⟩ = _ := fun o => hx2.cells.1 _ o (by first | (simp; done) | (simp; omega) | omega)
    have f2 : ∀ o, w2.frozen? ⟨w.heap.size + 1, o, none⟩ = _ := fun o => hx2.cells.2 _ o (by first | (simp; done) | (simp; omega) | omega)
    have hE2 : Ext w w2 := hE1.trans hx2
    obtain ⟨H, hF⟩ := R1.rows
    obtain ⟨g, rfl, hg0, hg1, hg2⟩ := hF.form (by omega)
    have HF := Lib.hid hF
    clear R1 hF
    go_wp2
    go_quiet (fail)
    have HS : Hid (PRowF (w2.alloc (.cells #[.int .i64 h, .slice (some ⟨g, 0, none⟩) n c1] 29)) w1.heap.size w2.heap.size (some ⟨g, 0, none⟩) n c1 H (pt ps) (tm ps)) := HF.out.ext (Ext.alloc (Ext.refl _) _)
    have hlo2 : w.heap.size + 1 < w1.heap.size := by omega
    have hgw : g < w2.heap.size := hg2
    have hgne : g ≠ w2.heap.size := by omega
    have hneg : w2.heap.size ≠ g := by omega
    have HSN : Hid (PRowF ((w2.alloc (.cells #[.int .i64 h, .slice (some ⟨g, 0, none⟩) n c1] 29)).drewN nq) w1.heap.size w2.heap.size (some ⟨g, 0, none⟩) n c1 H (pt ps) (tm ps)) := HS.out.ext (Ext.drewN (Ext.refl _) _)
    clear HS HF
    go_wp2
    go_loopw [5, 6] (fun i k wr => ∃ j kk : Nat, j + kk + 1 = n ∧ j ≤ kk + 1 ∧ i = .int .i64 j ∧ k = .int .i64 kk ∧ Ext w wr ∧ w2.heap.size < wr.heap.size ∧ (∀ o, wr.frozen? ⟨w.heap.size + 1, o, none⟩ = false) ∧ wr.cell? ⟨w.heap.size + 1, 0, none⟩ = some (.int .i64 0) ∧ wr.cell? ⟨w.heap.size + 1, 1, none⟩ = some (.slice none 0 0) ∧ wr.cell? ⟨w2.heap.size, 0, none⟩ = some (.int .i64 h) ∧ wr.cell? ⟨w2.heap.size, 1, none⟩ = some (.slice (some ⟨g, 0, none⟩) n c1) ∧ ∃ H X T, PRowF wr w1.heap.size w2.heap.size (some ⟨g, 0, none⟩) n c1 H X T ∧ ∀ i, i < n → X i = half (pt ps) n j i ∧ T i = half (tm ps) n j i) (fun i k _ => n - (intOf i).toNat)
    case atStart =>
      refine ⟨0, n - 1, by omega, by omega, rfl, ?_, (by with_reducible (repeat (first | exact Ext.refl _ | apply Ext.drewN | apply Ext.drew | apply Ext.alloc | (refine Ext.set ?_ (by first | (simp; done) | (simp; omega) | omega) _) | (refine Ext.trans ?_ (by assumption))))), by simp, fun o => by go_simp, by go_simp, by go_simp, by go_simp, by go_simp, H, _, _, HSN.out, fun i hi => ⟨(half_zero _ _ hi).symm, (half_zero _ _ hi).symm⟩⟩
      congr 1; omega
    case round =>
      obtain ⟨j, kk, hjk, hle, rfl, rfl, hx, hbig, r2, r0, r1, o0, o1, H, X, T, hF, hXT⟩ := hrel
      have HXT := Lib.hid hXT
      clear hXT HSN
      by_cases hlt : j < kk
      · have hi1 : (j : Int) < n := by omega
        have hi2 : (kk : Int) < n := by omega
        have hi3 : (j : Int) < kk := by omega
        obtain ⟨d0, d1, f0, f1⟩ := hF.cells (j := j) (by omega)
        obtain ⟨e0, e1, h0, h1⟩ := hF.cells (j := kk) (by omega)
        have P1 := Lib.hid (hF.swap (i := j) (k := kk) (by omega) (by omega) (by omega))
        have P2 := Lib.hid (hF.swap (i := kk) (k := j) (by omega) (by omega) (by omega))
        have hgr : g < wr.heap.size := by omega
        clear hF
        generalize hB1 : (H j).1 = B1 at *
        generalize hm1 : (X j).length = m1 at *
        generalize hd1 : (H j).2 = d1' at *
        generalize ht1 : T j = t1 at *
        generalize hB2 : (H kk).1 = B2 at *
        generalize hm2 : (X kk).length = m2 at *
        generalize hd2 : (H kk).2 = d2' at *
        generalize ht2 : T kk = t2 at *
        clear hB1 hm1 hd1 ht1 hB2 hm2 hd2 ht2
        have hjk2 : ¬ j * 2 = kk * 2 := by omega
        have hjk3 : ¬ j * 2 + 1 = kk * 2 := by omega
        have hjk4 : ¬ j * 2 = kk * 2 + 1 := by omega
        have hjk5 : ¬ j * 2 + 1 = kk * 2 + 1 := by omega
        have hkj2 : ¬ kk * 2 = j * 2 := by omega
        have hkj3 : ¬ kk * 2 + 1 = j * 2 := by omega
        have hkj4 : ¬ kk * 2 = j * 2 + 1 := by omega
        go_wp2
        go_region
        have hxn : Ext w ((((wr.setCell ⟨g, j * 2, none⟩ (.slice B2 m2 d2')).setCell ⟨g, j * 2 + 1, none⟩ (.int .i64 t2)).setCell ⟨g, kk * 2, none⟩ (.slice B1 m1 d1')).setCell ⟨g, kk * 2 + 1, none⟩ (.int .i64 t1)) := (((hx.set (by show w.heap.size ≤ g; omega) _).set (by show w.heap.size ≤ g; omega) _).set (by show w.heap.size ≤ g; omega) _).set (by show w.heap.size ≤ g; omega) _
        have hgn1 : ¬ g = w.heap.size + 1 := by omega
        have HN : Hid (∃ H X T, PRowF ((((wr.setCell ⟨g, j * 2, none⟩ (.slice B2 m2 d2')).setCell ⟨g, j * 2 + 1, none⟩ (.int .i64 t2)).setCell ⟨g, kk * 2, none⟩ (.slice B1 m1 d1')).setCell ⟨g, kk * 2 + 1, none⟩ (.int .i64 t1)) w1.heap.size w2.heap.size (some ⟨g, 0, none⟩) n c1 H X T ∧ ∀ i, i < n → X i = half (pt ps) n (j + 1) i ∧ T i = half (tm ps) n (j + 1) i) :=
          ⟨_, _, _, P1.out, fun i hi => ⟨(sw_eq _ _ _ _).trans (((HXT.out _ (sw_idx (by omega) (by omega) hi)).1).trans ((sw_eq _ _ (half (pt ps) n j) _).symm.trans (by have := half_step (pt ps) (j := j) (by omega) hi; rw [show n - 1 - j = kk by omega] at this; exact this))), (sw_eq _ _ _ _).trans (((HXT.out _ (sw_idx (by omega) (by omega) hi)).2).trans ((sw_eq _ _ (half (tm ps) n j) _).symm.trans (by have := half_step (tm ps) (j := j) (by omega) hi; rw [show n - 1 - j = kk by omega] at this; exact this)))⟩⟩
        clear P1 P2
        go_wp2
        go_roundw
        case rel => exact ⟨j + 1, kk - 1, by omega, by omega, by go_num, by congr 1; omega, Ext.drew hxn, by simpa [World.setCell] using hbig, fun o => by go_simp, by go_simp, by go_simp, by go_simp, by go_simp, by obtain ⟨H', X', T', e1, e2⟩ := HN.out; exact ⟨H', X', T', e1.ext (Ext.drew (Ext.refl _)), e2⟩⟩
        case measure => simp [intOf]; omega
      · have hge : n ≤ j + j + 1 := by omega
        have HT : Hid (PRow wr w1.heap.size w2.heap.size (some ⟨g, 0, none⟩) n c1 ps.reverse) := ⟨by simp [hlen], H, hF.congr (fun i hi => by rw [(HXT.out i hi).1, half_all _ hge hi, (pt_rev (by omega)).1, hlen]) (fun i hi => by rw [(HXT.out i hi).2, half_all _ hge hi, (pt_rev (by omega)).2, hlen])⟩
        have hi3 : ¬ (j : Int) < kk := by omega
        clear hF
        go_wp2
        refine bodyPost_ret (v := .tuple #[.agg #[.int .i64 h, .slice (some ⟨g, 0, none⟩) n c1], .int .i64 0]) (by simp [results, Try.results15, go_sem, *]) rfl ⟨_, n, c1, rfl, ?_, (by with_reducible (repeat (first | exact Ext.refl _ | apply Ext.drewN | apply Ext.drew | apply Ext.alloc | (refine Ext.set ?_ (by first | (simp; done) | (simp; omega) | omega) _) | (refine Ext.trans ?_ (by assumption)))))⟩
        have := (HT.out.far (p := ⟨w.heap.size + 1, 0, none⟩) (.inl (by show w.heap.size + 1 < w1.heap.size; omega)) (.int .i64 h)).far (p := ⟨w.heap.size + 1, 1, none⟩) (.inl (by show w.heap.size + 1 < w1.heap.size; omega)) (.slice (some ⟨g, 0, none⟩) n c1)
        exact this.wide (by omega) (by simp [World.setCell]; omega)
end Go.Proofs.Ytignmgeiijccoaa
