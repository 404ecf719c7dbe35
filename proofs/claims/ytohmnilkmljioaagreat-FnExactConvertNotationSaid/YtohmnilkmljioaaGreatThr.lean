/- Throws of passing patterns: words for lists of throws, an argument's reading, and contracts of the laws' copies, sizes, comparisons and marks. No condition but the stated bounds. -/
import Derived.Test.YtohmnilkmljioaaGreatThw
import Derived.Deep.Slices
import Derived.Deep.Fields
import Derived.ChangeSame
import Derived.Deep.RegionHeld3
namespace Go.Proofs.YtohmnilkmljioaaGreat
set_option linter.unusedVariables false
set_option linter.unusedSimpArgs false
open Go.ChangeShapes Go.WideShapes Go.ChangeAt Go.RowKit Go.Joins Go.Deep

def tv (ts : List (Int × Bool)) (i : Nat) : Int := (ts[i]?.map (·.1)).getD 0
def tp (ts : List (Int × Bool)) (i : Nat) : Bool := (ts[i]?.map (·.2)).getD false
/-- The slice (A, n) of throws holds ts. -/
structure Thr (w : World) (A : Option Addr) (n : Nat) (ts : List (Int × Bool)) : Prop where
  len : ts.length = n
  small : n ≤ 9223372036854775807
  at_ : 0 < n → ∃ b off, A = some ⟨b, off, none⟩ ∧ b < w.heap.size ∧ ∀ i, i < n → w.cell? ⟨b, off + i * 2, none⟩ = some (.int .i64 (tv ts i)) ∧ w.cell? ⟨b, off + i * 2 + 1, none⟩ = some (.bool (tp ts i))
theorem Thr.ext {w w' : World} {A : Option Addr} {n : Nat} {ts : List (Int × Bool)} (h : Thr w A n ts) (k : Ext w w') : Thr w' A n ts :=
  ⟨h.len, h.small, fun hn => by
    obtain ⟨b, off, e, hb, hc⟩ := h.at_ hn
    refine ⟨b, off, e, Nat.lt_of_lt_of_le hb k.size, fun i hi => ?_⟩
    obtain ⟨h1, h2⟩ := hc i hi
    exact ⟨k.cell hb h1, k.cell hb h2⟩⟩
theorem Thr.nil (w : World) (A : Option Addr) : Thr w A 0 [] := ⟨rfl, by omega, fun h => absurd h (by omega)⟩
theorem thr_ext {ts us : List (Int × Bool)} (hl : ts.length = us.length) (h : ∀ i, i < ts.length → tv ts i = tv us i ∧ tp ts i = tp us i) : ts = us := by
  apply List.ext_getElem hl
  intro i h1 h2
  have := h i h1
  unfold tv tp at this
  rw [List.getElem?_eq_getElem h1, List.getElem?_eq_getElem h2] at this
  exact Prod.ext this.1 this.2
section
variable {H : Type} {enc : TypeId × Value → H} {P : Program} {w : World} {base : Nat} {spare : Nat → Bool} {held : Bool}
/-- An argument's reading: a slice of structs of a number and a truth value. -/
theorem thr_of_trod {t e tn tb : TypeId} {f0 f1 : Field} {fuel : Nat} {v : Value} {x : DataW H × List MemPlace} (ht : P.underlying t = some (.slice e)) (he : P.underlying e = some (.struct #[f0, f1])) (hone : oneCellFields P #[f0, f1] = true) (hC : P.cellsOf e = 2)
    (h0 : f0.type = tn) (h1 : f1.type = tb) (htn : P.underlying tn = some (.int .i64)) (htb : P.underlying tb = some .bool)
    (hs : ∀ b, spare b = true) (h : DataW.trod enc P w base spare held fuel t [v] = some x) : ∃ A n c ts, v = .slice A n c ∧ Thr w A n ts := by
  rcases open_slice ht h with ⟨hcs, hx⟩ | ⟨a, len, cap, m, n, D, Pl, hcs, hb, hl, hm, hmm, hx, hi⟩
  · obtain rfl : v = .slice none 0 0 := by simpa using hcs
    exact ⟨none, 0, 0, [], rfl, Thr.nil _ _⟩
  · obtain rfl : v = .slice (some a) len cap := by simpa using hcs
    rw [hs a.block] at hmm
    simp only [if_true] at hmm
    subst hmm
    unfold maxLen at hm
    have key : ∀ i, i < len → ∃ q : Int × Bool, w.cell? (a.add (i * 2)) = some (.int .i64 q.1) ∧ w.cell? (a.add (i * 2 + 1)) = some (.bool q.2) := by
      intro i hil
      obtain ⟨cs', hc, ht'⟩ := hi i (by omega)
      rw [hC] at hc
      obtain ⟨ys, n', hn', hy, hlen, hyl, hf⟩ := DataW.trod_struct he ht'
      obtain ⟨_, hcl, hat⟩ := World.cells?_some hc
      obtain ⟨o0, k0⟩ := hone_of hone 0 f0 rfl
      obtain ⟨o1, k1⟩ := hone_of hone 1 f1 rfl
      match cs', hcl with
      | [u0, u1], _ =>
        match ys, hyl with
        | [y0, y1], _ =>
          have g0 := hf 0 f0 rfl
          have g1 := hf 1 f1 rfl
          rw [o0, k0, h0] at g0
          rw [o1, k1, h1] at g1
          obtain ⟨q, hq, _, hqw⟩ := DataW.trod_int (cs := [u0]) htn (by simpa using g0)
          obtain rfl : u0 = .int .i64 q := by simpa using hq
          obtain ⟨z, hz, _⟩ := DataW.trod_bool (cs := [u1]) htb (by simpa using g1)
          obtain rfl : u1 = .bool z := by simpa using hz
          have c0 := hat 0 (by omega)
          have c1 := hat 1 (by omega)
          rw [Go.Deep.add_add] at c0 c1
          exact ⟨(q, z), by simpa using c0, by simpa using c1⟩
    obtain ⟨f, hf⟩ := Go.Deep.choose_lt (α := Int × Bool) key
    refine ⟨some a, len, _, (List.range len).map f, rfl, by simp, by omega, fun hn => ?_⟩
    obtain ⟨b, off, spot⟩ := a
    have hspot : spot = none := by
      obtain ⟨e1, _⟩ := hf 0 hn
      simpa [Addr.add] using World.cell?_spot e1
    subst hspot
    have hadd : ∀ j, (⟨b, off, none⟩ : Addr).add j = ⟨b, off + j, none⟩ := fun j => by cases j <;> simp [Addr.add]
    have hlt : b < w.heap.size := by
      obtain ⟨e1, _⟩ := hf 0 hn
      rw [hadd] at e1
      exact cell_lt e1
    refine ⟨b, off, rfl, hlt, fun i hi => ?_⟩
    obtain ⟨e1, e2⟩ := hf i hi
    rw [hadd] at e1 e2
    refine ⟨?_, ?_⟩
    · rw [e1]
      unfold tv
      simp [hi]
    · rw [Nat.add_assoc, e2]
      unfold tp
      simp [hi]
end
/-- A row of throws of the call's own. -/
structure RowT (w : World) (lo hi : Nat) (A : Option Addr) (n c : Nat) (ts : List (Int × Bool)) : Prop where
  len : ts.length = n
  row : ∃ cs, RowG w lo hi 125 2 A n c cs ∧ ∀ i, i < n → cs[i * 2]? = some (.int .i64 (tv ts i)) ∧ cs[i * 2 + 1]? = some (.bool (tp ts i))
section
variable {w w' : World} {lo lo' hi hi' : Nat} {A : Option Addr} {n c : Nat} {ts : List (Int × Bool)}
theorem RowT.ext (h : RowT w lo hi A n c ts) (k : Ext w w') : RowT w' lo hi A n c ts := by
  obtain ⟨cs, hr, hc⟩ := h.row
  exact ⟨h.len, cs, hr.ext k, hc⟩
theorem RowT.beside (h : RowT w lo hi A n c ts) {row : Option Nat} (k : w.grownBy w' row) (hr : ∀ g, row = some g → A.map (·.block) ≠ some g) : RowT w' lo hi A n c ts := by
  obtain ⟨cs, hr', hc⟩ := h.row
  exact ⟨h.len, cs, hr'.beside k hr, hc⟩
theorem RowT.held (h : RowT w lo hi A n c ts) (k : Kept lo' hi' w w') (hr : hi ≤ lo' ∨ hi' ≤ lo) : RowT w' lo hi A n c ts := by
  obtain ⟨cs, hr', hc⟩ := h.row
  exact ⟨h.len, cs, hr'.held k hr, hc⟩
theorem RowT.wide (h : RowT w lo hi A n c ts) (h1 : lo' ≤ lo) (h2 : hi ≤ hi') : RowT w lo' hi' A n c ts := by
  obtain ⟨cs, hr', hc⟩ := h.row
  exact ⟨h.len, cs, hr'.wide h1 h2, hc⟩
theorem RowT.far (h : RowT w lo hi A n c ts) {p : Addr} (hp : p.block < lo ∨ hi ≤ p.block) (v : Value) : RowT (w.setCell p v) lo hi A n c ts := by
  obtain ⟨cs, hr', hc⟩ := h.row
  exact ⟨h.len, cs, hr'.keep hp v, hc⟩
theorem RowT.row_bd (h : RowT w lo hi A n c ts) : ∀ g, A.map (·.block) = some g → lo ≤ g ∧ g < hi := by
  obtain ⟨cs, hr', hc⟩ := h.row
  exact hr'.row_bd
theorem RowT.nil (w : World) (lo hi : Nat) : RowT w lo hi none 0 0 [] := ⟨rfl, [], RowG.nil _ _ _ _ _, fun i h => absurd h (by omega)⟩
theorem RowT.thr (h : RowT w lo hi A n c ts) (hn : n ≤ 1000000000) : Thr w A n ts := by
  obtain ⟨cs, hr', hc⟩ := h.row
  refine ⟨h.len, by omega, fun h0 => ?_⟩
  obtain ⟨g, rfl, hg⟩ := hr'.form h0
  refine ⟨g, 0, rfl, hg, fun i hi => ?_⟩
  obtain ⟨h1, h2⟩ := hc i hi
  refine ⟨?_, ?_⟩
  · rw [Nat.zero_add, (hr'.cellAt (p := i * 2) (by omega)).1, h1]
  · rw [Nat.zero_add, (hr'.cellAt (p := i * 2 + 1) (by omega)).1, h2]
end
theorem szPassThrowS_any (A : Option Addr) (m c : Nat) (r : Int) (w : World) (hm : m ≤ 9223372036854775807) (hr : 0 ≤ r ∧ r ≤ 1048576) :
    Calls Tryz.prog 45 #[.slice A m c, .int .i64 r] w fun e w' => e = .returned (.int .i64 (if r < m then -1 else r - m)) ∧ w = w' := by
  by_cases h : r < m
  · rw [if_pos h]
    go_enter Tryz.func45, Tryz.ntmps45
    go_wp2
    go_ret
    exact ⟨rfl, rfl⟩
  · rw [if_neg h]
    go_enter Tryz.func45, Tryz.ntmps45
    go_wp2
    go_ret
    exact ⟨rfl, rfl⟩
/-- What is left, and what that says. -/
def Left (p : Prop) (w : World) (e : Ending) (w' : World) : Prop := ∃ r : Int, e = .returned (.int .i64 r) ∧ (r < 0 ∨ 0 ≤ r ∧ r ≤ 1048576 ∧ p) ∧ Ext w w'
set_option maxHeartbeats 1000000 in
theorem szPassing_any (A B : Option Addr) (n m c d : Nat) (r : Int) (w : World) (hn : n ≤ 9223372036854775807) (hm : m ≤ 9223372036854775807) (hr : 0 ≤ r ∧ r ≤ 1048576) :
    Calls Tryz.prog 14 #[.agg #[.slice A n c, .slice B m d], .int .i64 r] w (Left (n ≤ 1048576 ∧ m ≤ 1048576) w) := by
  by_cases h : r < n
  · go_enter Tryz.func14, Tryz.ntmps14
    go_wp2_with (first | (go_at_call 45; (with_reducible refine (szPassThrowS_any A n c r _ hn hr).mono ?_); rw [if_pos h]; rintro e w' ⟨rfl, rfl⟩))
    go_ret
    exact ⟨-1, rfl, .inl (by omega), (by with_reducible (repeat (first | exact Ext.refl _ | apply Ext.drewN | apply Ext.drew | apply Ext.alloc | (refine Ext.set ?_ (by first | (simp; done) | (simp; omega) | omega) _) | (refine Ext.trans ?_ (by assumption)))))⟩
  · obtain ⟨q, hq⟩ : ∃ q, r - n = q := ⟨_, rfl⟩
    have hq0 : 0 ≤ q ∧ q ≤ 1048576 := by omega
    have hqn : ¬ q < 0 := by omega
    by_cases h2 : q < m
    · go_enter Tryz.func14, Tryz.ntmps14
      go_wp2_with fail
      (with_reducible refine (szPassThrowS_any A n c r _ hn hr).mono ?_)
      rw [if_neg (by omega), hq]
      rintro e w' ⟨rfl, rfl⟩
      go_wp2_with fail
      (with_reducible refine (szPassThrowS_any B m d q _ hm hq0).mono ?_)
      rw [if_pos h2]
      rintro e w' ⟨rfl, rfl⟩
      go_wp2
      go_ret
      exact ⟨-1, rfl, .inl (by omega), (by with_reducible (repeat (first | exact Ext.refl _ | apply Ext.drewN | apply Ext.drew | apply Ext.alloc | (refine Ext.set ?_ (by first | (simp; done) | (simp; omega) | omega) _) | (refine Ext.trans ?_ (by assumption)))))⟩
    · have h3 : ¬ q - m < 0 := by omega
      have hnn : n ≤ 1048576 ∧ m ≤ 1048576 := by omega
      have HQ := Lib.hid hq
      clear hq
      go_enter Tryz.func14, Tryz.ntmps14
      go_wp2_with fail
      (with_reducible refine (szPassThrowS_any A n c r _ hn hr).mono ?_)
      rw [if_neg (by omega), HQ.out]
      rintro e w' ⟨rfl, rfl⟩
      go_wp2_with fail
      (with_reducible refine (szPassThrowS_any B m d q _ hm hq0).mono ?_)
      rw [if_neg (by omega)]
      rintro e w' ⟨rfl, rfl⟩
      go_wp2
      go_ret
      exact ⟨q - m, rfl, .inr ⟨by omega, by omega, hnn⟩, (by with_reducible (repeat (first | exact Ext.refl _ | apply Ext.drewN | apply Ext.drew | apply Ext.alloc | (refine Ext.set ?_ (by first | (simp; done) | (simp; omega) | omega) _) | (refine Ext.trans ?_ (by assumption)))))⟩
theorem toPassThrow_any (v : Int) (p : Bool) (w : World) :
    Calls Tryz.prog 99 #[.agg #[.int .i64 v, .bool p]] w fun e w' => e = .returned (.agg #[.int .i64 v, .bool p]) ∧ Ext w w' := by
  go_enter Tryz.func99, Tryz.ntmps99
  go_wp2
  exact bodyPost_ret (v := .agg #[.int .i64 v, .bool p]) (by simp [results, Tryz.results99, go_sem, *]) rfl ⟨rfl, (by with_reducible (repeat (first | exact Ext.refl _ | apply Ext.drewN | apply Ext.drew | apply Ext.alloc | (refine Ext.set ?_ (by first | (simp; done) | (simp; omega) | omega) _) | (refine Ext.trans ?_ (by assumption)))))⟩
theorem infoThrow : (Tryz.prog.info? 125).map (fun i => (i.zero, i.size, i.bytes)) = some (some (.agg #[.int .i64 0, .bool false]), 2, 16) := by kernel_rfl
theorem run_make_throws (n : Nat) (hn : n ≤ 1048576) (w : World) :
    (Instr.makeSlice 35 (.int .i64 (n : Int)) (.int .i64 (n : Int))).run Tryz.prog w = .ok (.slice (some ⟨w.heap.size, 0, none⟩) n n) (w.alloc (.cells (madeCells #[.int .i64 0, .bool false] (n * 2)) 125)) := by
  obtain ⟨i, hi, hzz⟩ := Option.map_eq_some_iff.1 infoThrow
  simp only [Prod.mk.injEq] at hzz
  obtain ⟨hz, hs, hb⟩ := hzz
  have hr := run_make (P := Tryz.prog) w 35 125 i _ Tryz.underlying35 hi hz .i64 .i64 n n (by omega) (Int.le_refl _) (by rw [hb]; omega) (by omega)
  simp only [Int.toNat_natCast, hs] at hr
  exact hr
/-- What hands back a row of throws. -/
def RetT (w : World) (n : Nat) (ts : List (Int × Bool)) (e : Ending) (w' : World) : Prop := ∃ A c, e = .returned (.slice A n c) ∧ RowT w' w.heap.size w'.heap.size A n c ts ∧ Ext w w'
set_option maxHeartbeats 1000000 in
theorem toPassThrowS_row (A : Option Addr) (n c : Nat) (ts : List (Int × Bool)) (w : World) (hI : Thr w A n ts) (hn : n ≤ 1048576) :
    Calls Tryz.prog 62 #[.slice A n c] w (RetT w n ts) := by
  have hmk := fun W => run_make_throws n hn W
  have hR0 : RowG (w.alloc (.cells (madeCells #[.int .i64 0, .bool false] (n * 2)) 125)) w.heap.size (w.heap.size + 1) 125 2 (some ⟨w.heap.size, 0, none⟩) n n (madeCells #[.int .i64 0, .bool false] (n * 2)).toList := by
    refine ⟨⟨by simp [size_madeCells], .inr ⟨w.heap.size, n, madeCells #[.int .i64 0, .bool false] (n * 2), rfl, Nat.le_refl _, heap_alloc_new _ _, Nat.le_refl _, by unfold maxLen; omega, by simp [size_madeCells], ?_⟩⟩, fun a ha => by cases ha; simp⟩
    exact List.take_of_length_le (by simp [size_madeCells])
  go_enter Tryz.func62, Tryz.ntmps62
  go_wp2
  clear hmk
  go_loopw [4] (fun i wr => ∃ k : Nat, k ≤ n ∧ i = .int .i64 k ∧ Ext w wr ∧ w.heap.size < wr.heap.size ∧ ∃ cs, RowG wr w.heap.size (w.heap.size + 1) 125 2 (some ⟨w.heap.size, 0, none⟩) n n cs ∧ ∀ j, j < k → cs[j * 2]? = some (.int .i64 (tv ts j)) ∧ cs[j * 2 + 1]? = some (.bool (tp ts j))) (fun i _ => n - (intOf i).toNat)
  case atStart => exact ⟨0, Nat.zero_le _, rfl, (Ext.refl _).alloc _, by simp, _, hR0, fun j h => absurd h (by omega)⟩
  case round =>
    obtain ⟨k, hk, rfl, hxe, hbig, cs, hrow, hcs⟩ := hrel
    have HCS := Lib.hid hcs
    clear hcs hR0
    by_cases hlt : k < n
    · obtain ⟨b, off, hA, hb, hcell⟩ := (hI.ext hxe).at_ (by omega)
      subst hA
      obtain ⟨c0, c1⟩ := hcell k hlt
      have hki : (k : Int) < n := by omega
      clear hcell
      obtain ⟨v, hv⟩ : ∃ v, tv ts k = v := ⟨_, rfl⟩
      obtain ⟨p, hp⟩ : ∃ p, tp ts k = p := ⟨_, rfl⟩
      rw [hv] at c0
      rw [hp] at c1
      go_wp2_with fail
      (with_reducible refine (toPassThrow_any v p _).mono ?_)
      rintro e w2 ⟨rfl, hx2⟩
      have hrow2 := hrow.ext hx2
      have hz2 := hx2.size
      (try simp at hz2)
      have hl := hrow2.len
      obtain ⟨d0, f0⟩ := hrow2.cellAt (p := k * 2) (by omega)
      obtain ⟨d1, f1⟩ := hrow2.cellAt (p := k * 2 + 1) (by omega)
      rw [List.getElem?_eq_getElem (by omega)] at d0 d1
      generalize cs[k * 2]'(by omega) = u0 at d0
      generalize cs[k * 2 + 1]'(by omega) = u1 at d1
      have hbg : w.heap.size < w2.heap.size := by omega
      have HN : Hid (RowG ((w2.setCell ⟨w.heap.size, k * 2, none⟩ (.int .i64 v)).setCell ⟨w.heap.size, k * 2 + 1, none⟩ (.bool p)) w.heap.size (w.heap.size + 1) 125 2 (some ⟨w.heap.size, 0, none⟩) n n ((cs.set (k * 2) (.int .i64 v)).set (k * 2 + 1) (.bool p)) ∧
          ∀ j, j < k + 1 → ((cs.set (k * 2) (.int .i64 v)).set (k * 2 + 1) (.bool p))[j * 2]? = some (.int .i64 (tv ts j)) ∧ ((cs.set (k * 2) (.int .i64 v)).set (k * 2 + 1) (.bool p))[j * 2 + 1]? = some (.bool (tp ts j))) := by
        refine ⟨(hrow2.store _ _).store _ _, fun j hj => ?_⟩
        by_cases e : j = k
        · subst e
          refine ⟨?_, ?_⟩
          · rw [List.getElem?_set_ne (by omega), List.getElem?_set_self (by omega), hv]
          · rw [List.getElem?_set_self (by rw [List.length_set]; omega), hp]
        · obtain ⟨e0, e1⟩ := HCS.out j (by omega)
          refine ⟨?_, ?_⟩
          · rw [List.getElem?_set_ne (by omega), List.getElem?_set_ne (by omega), e0]
          · rw [List.getElem?_set_ne (by omega), List.getElem?_set_ne (by omega), e1]
      have hxn : Ext w ((w2.setCell ⟨w.heap.size, k * 2, none⟩ (.int .i64 v)).setCell ⟨w.heap.size, k * 2 + 1, none⟩ (.bool p)) := ((hxe.trans (Ext.trans (by with_reducible (repeat (first | exact Ext.refl _ | apply Ext.drewN | apply Ext.drew | apply Ext.alloc | (refine Ext.set ?_ (by first | (simp; done) | (simp; omega) | omega) _) | (refine Ext.trans ?_ (by assumption))))) hx2)).set (Nat.le_refl _) _).set (Nat.le_refl _) _
      go_wp2
      go_roundw
      case rel => exact ⟨k + 1, by omega, by go_num, hxn, by simpa [World.setCell] using hbg, _, HN.out.1, HN.out.2⟩
      case measure => simp [intOf]; omega
    · obtain rfl : k = n := by omega
      have HT : Hid (RetT w k ts (.returned (.slice (some ⟨w.heap.size, 0, none⟩) k k)) wr) := ⟨_, _, rfl, ⟨hI.len, cs, hrow.wide (Nat.le_refl _) (by omega), HCS.out⟩, hxe⟩
      go_wp2
      go_ret
      exact HT.out
/-- Two rows of throws, in different blocks. -/
structure PassR (w : World) (lo hi : Nat) (A : Option Addr) (n c : Nat) (B : Option Addr) (m d : Nat) (ts us : List (Int × Bool)) : Prop where
  a : RowT w lo hi A n c ts
  b : RowT w lo hi B m d us
  ne : ∀ g, A.map (·.block) = some g → B.map (·.block) ≠ some g
section
variable {w w' : World} {lo lo' hi hi' : Nat} {A B : Option Addr} {n c m d : Nat} {ts us : List (Int × Bool)}
theorem PassR.ext (h : PassR w lo hi A n c B m d ts us) (k : Ext w w') : PassR w' lo hi A n c B m d ts us := ⟨h.a.ext k, h.b.ext k, h.ne⟩
theorem PassR.held (h : PassR w lo hi A n c B m d ts us) (k : Kept lo' hi' w w') (hr : hi ≤ lo' ∨ hi' ≤ lo) : PassR w' lo hi A n c B m d ts us := ⟨h.a.held k hr, h.b.held k hr, h.ne⟩
theorem PassR.wide (h : PassR w lo hi A n c B m d ts us) (h1 : lo' ≤ lo) (h2 : hi ≤ hi') : PassR w lo' hi' A n c B m d ts us := ⟨h.a.wide h1 h2, h.b.wide h1 h2, h.ne⟩
theorem PassR.swap (h : PassR w lo hi A n c B m d ts us) : PassR w lo hi B m d A n c us ts := ⟨h.b, h.a, fun g hg e => h.ne g e hg⟩
theorem PassR.nil (w : World) (lo hi : Nat) : PassR w lo hi none 0 0 none 0 0 [] [] := ⟨RowT.nil _ _ _, RowT.nil _ _ _, fun g h => by cases h⟩
end
/-- A pattern's copy. -/
def RetPass (w : World) (n : Nat) (ts : List (Int × Bool)) (m : Nat) (us : List (Int × Bool)) (e : Ending) (w' : World) : Prop :=
  ∃ A c B d, e = .returned (.agg #[.slice A n c, .slice B m d]) ∧ PassR w' w.heap.size w'.heap.size A n c B m d ts us ∧ Ext w w'
set_option maxHeartbeats 1000000 in
theorem toPassing_row (A : Option Addr) (n c : Nat) (ts : List (Int × Bool)) (B : Option Addr) (m d : Nat) (us : List (Int × Bool)) (w : World) (hI : Thr w A n ts) (hJ : Thr w B m us) (hn : n ≤ 1048576) (hm : m ≤ 1048576) :
    Calls Tryz.prog 23 #[.agg #[.slice A n c, .slice B m d]] w (RetPass w n ts m us) := by
  go_enter Tryz.func23, Tryz.ntmps23
  go_wp2_with fail
  (with_reducible refine (toPassThrowS_row _ n _ ts _ (hI.ext (by with_reducible (repeat (first | exact Ext.refl _ | apply Ext.drewN | apply Ext.drew | apply Ext.alloc | (refine Ext.set ?_ (by first | (simp; done) | (simp; omega) | omega) _) | (refine Ext.trans ?_ (by assumption)))))) hn).mono ?_)
  rintro e w1 ⟨A1, c1, rfl, R1, hx1⟩
  have hz1 := hx1.size
  (try simp at hz1)
  have hb1 := R1.row_bd
  (try simp at hb1)
  have HR1 := Lib.hid R1
  clear R1
  have q0 : w.heap.size < w1.heap.size := by omega
  have q1 : w.heap.size + 1 < w1.heap.size := by omega
  have q2 : w.heap.size + 1 + 1 < w1.heap.size := by omega
  have k0 : ∀ o, w1.cell? ⟨w.heap.size, o, none⟩ = _ := fun o => hx1.cells.1 _ o (by first | (simp; done) | (simp; omega) | omega)
  have k1 : ∀ o, w1.cell? ⟨w.heap.size + 1, o, none⟩ = _ := fun o => hx1.cells.1 _ o (by first | (simp; done) | (simp; omega) | omega)
  have k2 : ∀ o, w1.cell? ⟨w.heap.size + 1 + 1, o, none⟩ = _ := fun o => hx1.cells.1 _ o (by first | (simp; done) | (simp; omega) | omega)
  have f1 : ∀ o, w1.frozen? ⟨w.heap.size + 1, o, none⟩ = _ := fun o => hx1.cells.2 _ o (by first | (simp; done) | (simp; omega) | omega)
  have f2 : ∀ o, w1.frozen? ⟨w.heap.size + 1 + 1, o, none⟩ = _ := fun o => hx1.cells.2 _ o (by first | (simp; done) | (simp; omega) | omega)
  have hEw1 : Ext w w1 := Ext.trans (by with_reducible (repeat (first | exact Ext.refl _ | apply Ext.drewN | apply Ext.drew | apply Ext.alloc | (refine Ext.set ?_ (by first | (simp; done) | (simp; omega) | omega) _) | (refine Ext.trans ?_ (by assumption))))) hx1
  go_wp2_with fail
  (with_reducible refine (toPassThrowS_row _ m _ us _ (hJ.ext (by with_reducible (repeat (first | exact Ext.refl _ | apply Ext.drewN | apply Ext.drew | apply Ext.alloc | (refine Ext.set ?_ (by first | (simp; done) | (simp; omega) | omega) _) | (refine Ext.trans ?_ (by assumption)))))) hm).mono ?_)
  rintro e w2 ⟨A2, c2, rfl, R2, hx2⟩
  have hz2 := hx2.size
  (try simp [World.setCell] at hz2)
  have HR2 := Lib.hid R2
  clear R2
  have HB1 := Lib.hid hb1
  clear hb1
  have u0 : w.heap.size < w2.heap.size := by omega
  have u1 : w.heap.size + 1 < w2.heap.size := by omega
  have u2 : w.heap.size + 1 + 1 < w2.heap.size := by omega
  have m0 : ∀ o, w2.cell? ⟨w.heap.size, o, none⟩ = _ := fun o => hx2.cells.1 _ o (by first | (simp [World.setCell]; done) | (simp [World.setCell]; omega) | omega)
  have m1 : ∀ o, w2.cell? ⟨w.heap.size + 1, o, none⟩ = _ := fun o => hx2.cells.1 _ o (by first | (simp [World.setCell]; done) | (simp [World.setCell]; omega) | omega)
  have m2 : ∀ o, w2.cell? ⟨w.heap.size + 1 + 1, o, none⟩ = _ := fun o => hx2.cells.1 _ o (by first | (simp [World.setCell]; done) | (simp [World.setCell]; omega) | omega)
  have g1 : ∀ o, w2.frozen? ⟨w.heap.size + 1, o, none⟩ = _ := fun o => hx2.cells.2 _ o (by first | (simp [World.setCell]; done) | (simp [World.setCell]; omega) | omega)
  have g2 : ∀ o, w2.frozen? ⟨w.heap.size + 1 + 1, o, none⟩ = _ := fun o => hx2.cells.2 _ o (by first | (simp [World.setCell]; done) | (simp [World.setCell]; omega) | omega)
  have HX2 := Lib.hid hx2
  go_wp2
  refine bodyPost_ret (v := .agg #[.slice A1 n c1, .slice A2 m c2]) (by simp [results, Tryz.results23, go_sem, *]) rfl ⟨A1, c1, A2, c2, rfl, ⟨?_, ?_, ?_⟩, (by with_reducible (repeat (first | exact Ext.refl _ | apply Ext.drewN | apply Ext.drew | apply Ext.alloc | (refine Ext.set ?_ (by first | (simp; done) | (simp; omega) | omega) _) | (refine Ext.trans ?_ (by assumption)))))⟩
  · refine RowT.wide (lo := w.heap.size + 1 + 1 + 1) (hi := w1.heap.size) ?_ (by omega) (by simpa [World.setCell] using hz2)
    have h0 : RowT w1 (w.heap.size + 1 + 1 + 1) w1.heap.size A1 n c1 ts := by simpa using HR1.out
    refine RowT.far (RowT.far (RowT.far ((h0.far (p := ⟨w.heap.size + 1 + 1, 0, none⟩) (.inl (by simp; try omega)) _).ext HX2.out) (.inl (by simp; try omega)) _) (.inl (by simp; try omega)) _) (.inl (by simp; try omega)) _
  · refine RowT.wide (lo := w1.heap.size) (hi := w2.heap.size) ?_ (by omega) (by simp [World.setCell])
    have h0 : RowT w2 w1.heap.size w2.heap.size A2 m c2 us := by simpa [World.setCell] using HR2.out
    refine RowT.far (RowT.far (RowT.far h0 (.inl (by simp; try omega)) _) (.inl (by simp; try omega)) _) (.inl (by simp; try omega)) _
  · intro g hg hg2
    have h0 : RowT w2 w1.heap.size w2.heap.size A2 m c2 us := by simpa [World.setCell] using HR2.out
    obtain ⟨h3, h4⟩ := h0.row_bd g hg2
    obtain ⟨a, ha, rfl⟩ := Option.map_eq_some_iff.1 hg
    have := (HB1.out a ha).2
    omega
end Go.Proofs.YtohmnilkmljioaaGreat
