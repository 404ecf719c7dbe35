/- Rtp Lbn Drr Dsr in one text (a claim has at most 60 files). No condition but the stated bounds. -/
import Derived.Test.YtinkaglngblddaaDoorRdp
import Derived.Test.YtinkaglngblddaaDoorLdw
import Derived.Test.YtinkaglngblddaaDoorRtx
import Derived.Test.YtinkaglngblddaaDoorSpl
import Derived.Test.YtinkaglngblddaaDoorRtm5
import Derived.RegionTactic
import Derived.ChangeAlike
namespace Go.Proofs.YtinkaglngblddaaDoor
set_option linter.unusedVariables false
set_option linter.unusedSimpArgs false
open Go.RowKit Go.Joins

theorem dg_all (u : Nat) : (dg u).all isDg = true ∧ dval (dg u) = u := by
  induction u using Nat.strongRecOn with
  | _ u ih =>
    by_cases h : u = 0
    · subst h; simp [dg, dval]
    · obtain ⟨h1, h2⟩ := ih (u / 10) (by omega)
      have h3 : (UInt8.ofNat (48 + u % 10)).toNat = 48 + u % 10 := by simp; omega
      rw [dg_step u (by omega), dval_snoc, h2, h3]
      refine ⟨?_, by omega⟩
      rw [List.all_append, h1, Bool.true_and]
      simp only [List.all_cons, List.all_nil, Bool.and_true]
      exact isDg_iff.2 (by omega)
theorem dec_pos {n : Int} (h : 1 ≤ n) : dec n = ⟨(dg n.natAbs).toArray⟩ := by unfold dec; rw [itoa_pos (by omega)]
theorem dec_digs {n : Int} (h : 1 ≤ n) : (dec n).data.toList.all isDg = true := by
  rw [dec_pos h]
  show (dg n.natAbs).toArray.toList.all isDg = true
  rw [List.toList_toArray]
  exact (dg_all _).1
theorem dec_noB {n : Int} (h : 1 ≤ n) {c : UInt8} (hc : isDg c = false) : noB (dec n) c 0 (dec n).size := by
  intro j _ hj he
  have hm : c ∈ (dec n).data.toList := by
    refine List.mem_iff_getElem?.2 ⟨j, ?_⟩
    rw [← he]
    simp
  have := List.all_eq_true.1 (dec_digs h) c hm
  rw [hc] at this
  cases this
theorem dec_back {n : Int} (h : 1 ≤ n ∧ n ≤ 1000000) : numOk (dec n) ∧ numV (dec n) = n := by
  have h45 : ¬ (dec n).data[0]? = some 45 := fun e => by
    have hs : 0 < (dec n).size := (dec_size (n := n) (by omega)).1
    exact dec_noB (n := n) (by omega) (c := 45) (by decide) 0 (Nat.le_refl _) hs e
  have hT : numT (dec n) = dec n := by unfold numT; rw [if_neg h45]
  have hl : (dec n).data.toList = dg n.natAbs := by rw [dec_pos h.1]
  have hV : numV (dec n) = n := by
    unfold numV
    rw [if_neg h45, hT, hl, (dg_all _).2]
    omega
  have h1 := (dec_size (n := n) (by omega)).1
  have h2 : (dec n).size ≤ 7 := by
    have := dg_len 7 n.natAbs (by omega)
    rw [← hl] at this
    simpa using this
  exact ⟨⟨by rw [hT]; omega, by rw [hT]; exact dec_digs h.1, by rw [hV]⟩, hV⟩
theorem ptx_char {xs : List Int} (hv : vpat xs = true) {j : Nat} (hj : j < xs.length) : (ptx xs).data[j]? = some (UInt8.ofNat (dgq (xs[j]?.getD 0).toNat)) := by
  unfold ptx
  show (ptk xs xs.length).toArray[j]? = _
  rw [List.getElem?_toArray]
  unfold ptk
  simp [hj]
theorem dgq_bd {d : Nat} (h : d ≤ 15) : (48 ≤ dgq d ∧ dgq d ≤ 57) ∨ (97 ≤ dgq d ∧ dgq d ≤ 102) := by unfold dgq; split <;> omega
theorem ptx_noB {xs : List Int} (hv : vpat xs = true) {c : UInt8} (hc : c.toNat < 48) : noB (ptx xs) c 0 (ptx xs).size := by
  intro j _ hj he
  rw [ptx_size] at hj
  rw [ptx_char hv hj] at he
  have h1 := vpat_get hv hj
  have h2 := dgq_bd (d := (xs[j]?.getD 0).toNat) (by omega)
  have h3 := Option.some.inj he
  have h4 := congrArg UInt8.toNat h3
  simp at h4
  omega
theorem hxs_ptx {xs : List Int} (hv : vpat xs = true) : hxs (ptx xs) = xs := by
  apply List.ext_getElem
  · rw [hxs_len, ptx_size]
  · intro i h1 h2
    have h3 := vpat_get hv h2
    have h4 := ptx_char hv h2
    have e : xs[i]?.getD 0 = xs[i] := by rw [List.getElem?_eq_getElem h2]; rfl
    rw [e] at h3 h4
    have h5 : i < (ptx xs).data.toList.length := by rw [hxs_len] at h1; simpa using h1
    have h6 : (ptx xs).data.toList[i] = UInt8.ofNat (dgq xs[i].toNat) := by
      have : (ptx xs).data.toList[i]? = some (UInt8.ofNat (dgq xs[i].toNat)) := by rw [← h4]; simp
      rw [List.getElem?_eq_getElem h5] at this
      exact Option.some.inj this
    have h7 := dgq_bd (d := xs[i].toNat) (by omega)
    have h10 : (hxs (ptx xs))[i] = hxv ((ptx xs).data.toList[i]).toNat := by simp [hxs]
    rw [h10, h6]
    have h8 : (UInt8.ofNat (dgq xs[i].toNat)).toNat = dgq xs[i].toNat := by simp; omega
    rw [h8]
    unfold hxv dgq at *
    by_cases h9 : xs[i].toNat < 10
    · rw [if_pos h9] at h7 ⊢; rw [if_pos (by omega)]; omega
    · rw [if_neg h9] at h7 ⊢; rw [if_neg (by omega), if_pos (by omega)]; omega
theorem cut_of {c : UInt8} {a b : ByteArray} (h : noB a c 0 a.size) : Cutd c (a ++ ⟨#[c]⟩ ++ b) a b true := by
  have hs : (a ++ (⟨#[c]⟩ : ByteArray) ++ b).size = a.size + 1 + b.size := by rw [ByteArray.size_append, ByteArray.size_append]; rfl
  have hd : (a ++ (⟨#[c]⟩ : ByteArray) ++ b).data = a.data ++ #[c] ++ b.data := by simp [ByteArray.data_append]
  have hsz : a.data.size = a.size := rfl
  refine .inl ⟨rfl, a.size, ?_, ?_, ?_, ?_⟩
  · rw [hd, Array.append_assoc, Array.getElem?_append_right (by omega), hsz, Nat.sub_self, Array.getElem?_append_left (show 0 < (#[c] : Array UInt8).size from Nat.one_pos)]
    rfl
  · intro j h1 h2 he
    rw [hd, Array.append_assoc, Array.getElem?_append_left (by omega)] at he
    exact h j h1 h2 he
  · apply ByteArray.ext
    rw [ByteArray.data_extract, hd, Array.append_assoc]
    apply Array.ext'
    simp [Array.toList_extract, List.extract]
  · apply ByteArray.ext
    rw [ByteArray.data_extract, hd, hs]
    apply Array.ext'
    rw [Array.toList_extract]
    simp only [List.extract, Array.toList_append]
    have hlen : (a.data.toList ++ [c]).length = a.size + 1 := by simp
    show b.data.toList = (((a.data.toList ++ [c]) ++ b.data.toList).drop (a.size + 1)).take _
    rw [← hlen, List.drop_left, List.take_of_length_le (by simp)]
/-- The words of a routine's text. -/
def wordOf (ps : List (List Int × Int)) (i : Nat) : ByteArray := ptx (pt ps i) ++ ⟨#[42]⟩ ++ dec (tm ps i)
def wordsOf (ps : List (List Int × Int)) : List ByteArray := (List.range ps.length).map (wordOf ps)
theorem wordsOf_get {ps : List (List Int × Int)} {i : Nat} (h : i < ps.length) : gs (wordsOf ps) i = wordOf ps i := by
  unfold gs wordsOf
  simp [h]
theorem spl_words (c : UInt8) : ∀ (us : List (List UInt8)) (l : List UInt8), (∀ x ∈ l, x ≠ c) → (∀ u ∈ us, ∀ x ∈ u, x ≠ c) → spl c (l ++ us.flatMap fun u => c :: u) = l :: us
  | [], l, h, _ => by simpa using spl_none c l h
  | u :: us, l, h, hu => by
    have ih := spl_words c us u (hu u (by simp)) (fun v hv => hu v (by simp [hv]))
    rw [List.flatMap_cons, List.cons_append, spl_at c _ l h, ih]
theorem noB_mem {s : ByteArray} {c : UInt8} (h : noB s c 0 s.size) : ∀ x ∈ s.data.toList, x ≠ c := by
  intro x hx e
  subst e
  obtain ⟨j, hj, he⟩ := List.mem_iff_getElem.1 hx
  refine h j (Nat.zero_le _) (by simpa using hj) ?_
  rw [← he]
  simp at hj
  simp [hj]
theorem noB_app {a b : ByteArray} {c : UInt8} (h1 : noB a c 0 a.size) (h2 : noB b c 0 b.size) : noB (a ++ b) c 0 (a ++ b).size := by
  intro j _ hj he
  rw [ByteArray.size_append] at hj
  have hsz : a.data.size = a.size := rfl
  rw [ByteArray.data_append] at he
  by_cases h : j < a.size
  · rw [Array.getElem?_append_left (by omega)] at he
    exact h1 j (Nat.zero_le _) h he
  · rw [Array.getElem?_append_right (by omega)] at he
    exact h2 (j - a.size) (Nat.zero_le _) (by omega) he
theorem noB_one {x c : UInt8} (h : x ≠ c) : noB ⟨#[x]⟩ c 0 (⟨#[x]⟩ : ByteArray).size := by
  intro j _ hj he
  have : j = 0 := by have : (⟨#[x]⟩ : ByteArray).size = 1 := rfl; omega
  subst this
  simp at he
  exact h he
theorem splB_words {w0 : ByteArray} {ws : List ByteArray} (h0 : noB w0 32 0 w0.size) (h : ∀ u ∈ ws, noB u 32 0 u.size) : splB 32 (jn (w0 :: ws) ws.length) = w0 :: ws := by
  unfold splB
  rw [jn_list w0 ws _ (Nat.le_refl _), List.take_length]
  have h1 := spl_words 32 (ws.map fun u => u.data.toList) w0.data.toList (noB_mem h0) (by
    intro v hv
    simp only [List.mem_map] at hv
    obtain ⟨u, hu, rfl⟩ := hv
    exact noB_mem (h u hu))
  rw [List.flatMap_map] at h1
  rw [h1, List.map_cons, List.map_map]
  congr 1
  exact (List.map_congr_left (fun u _ => by simp)).trans (List.map_id ws)
/-- A valid routine's text is read back. -/
theorem rdo_text {h : Int} {ps : List (List Int × Int)} (hv : vrt h ps) : rdo (rtx h ps ps.length) h ps := by
  obtain ⟨hh, hn, hp⟩ := vrt_parts hv rfl
  have hed0 : hed (dec h ++ ⟨#[58]⟩) h := by
    obtain ⟨k1, k2⟩ := dec_back (n := h) (by omega)
    have := cut_of (c := 58) (a := dec h) (b := ⟨#[]⟩) (dec_noB (by omega) (by decide))
    have e : dec h ++ (⟨#[58]⟩ : ByteArray) ++ ⟨#[]⟩ = dec h ++ ⟨#[58]⟩ := by apply ByteArray.ext; simp [ByteArray.data_append]
    rw [e] at this
    exact ⟨_, this, k1, k2.symm⟩
  have hl : (wordsOf ps).length = ps.length := by simp [wordsOf]
  have hw : wrds (wordsOf ps) ps (wordsOf ps).length := by
    refine ⟨hl.symm, Nat.le_refl _, fun i hi => ?_⟩
    rw [hl] at hi
    obtain ⟨j1, j2⟩ := hp i hi
    obtain ⟨k1, k2⟩ := dec_back (n := tm ps i) (by omega)
    rw [wordsOf_get hi]
    exact ⟨_, _, cut_of (ptx_noB j1 (by decide)), (hxs_ptx j1).symm, j1, k1, k2.symm⟩
  refine ⟨_, wordsOf ps, ?_, hed0, hw, hv⟩
  rw [← hl, rtx_back hed0 hw _ (Nat.le_refl _)]
  refine splB_words (noB_app (dec_noB (by omega) (by decide)) (noB_one (by decide))) (fun u hu => ?_)
  simp only [wordsOf, List.mem_map, List.mem_range] at hu
  obtain ⟨i, hi, rfl⟩ := hu
  obtain ⟨j1, j2⟩ := hp i hi
  exact noB_app (noB_app (ptx_noB j1 (by decide)) (noB_one (by decide))) (dec_noB (by omega) (by decide))
/-- The empty text is none of a routine. -/
theorem rdo_none (h : Int) (ps : List (List Int × Int)) : ¬ rdo ⟨#[]⟩ h ps := by
  rintro ⟨w0, ws, h1, ⟨a, k1, _⟩, _⟩
  obtain ⟨k, hk, _⟩ := cut_true k1
  have h2 := splB_szs (c := 32) (s := ⟨#[]⟩) (N := 0) (Nat.le_refl _) w0 (by rw [h1]; simp)
  have h3 : k < w0.size := (Array.getElem?_eq_some_iff.1 hk).1
  omega
end Go.Proofs.YtinkaglngblddaaDoor

namespace Go.Proofs.YtinkaglngblddaaDoor
set_option linter.unusedVariables false
set_option linter.unusedSimpArgs false
open Go.ChangeShapes Go.WideShapes Go.ChangeAt Go.RowKit Go.Joins Go.Deep

/-- A part's pattern is written, whose row lies behind all. -/
theorem PRowF.pat {w : World} {lo hi : Nat} {n c : Nat} {H : Nat → Option Addr × Nat} {X : Nat → List Int} {T : Nat → Int} {g : Nat} (h : PRowF w lo hi (some ⟨g, 0, none⟩) n c H X T) {j : Nat} (hj : j < n) {lo2 hi2 : Nat} {B : Option Addr} {m d : Nat} {xs : List Int} (R : Row w lo2 hi2 2 1 B m d xs) (hm : xs.length = m) (h1 : hi ≤ lo2) (h2 : hi ≤ hi2) (h0 : lo ≤ lo2) :
    PRowF (w.setCell ⟨g, j * 2, none⟩ (.slice B m d)) lo hi2 (some ⟨g, 0, none⟩) n c (upd H j (B, d)) (upd X j xs) T := by
  obtain ⟨cs, hr, hc⟩ := h.row
  have hl := hr.len
  have hgb := hr.row_bd g rfl
  subst hm
  refine ⟨⟨_, (hr.store _ _).wide (Nat.le_refl _) h2, fun i hi => ?_⟩, fun i hi => ?_, fun i k hi hk hne g' hg' => ?_, fun i hi g' hg' => ?_⟩
  · by_cases e : i = j
    · subst e
      rw [upd_self, upd_self]
      refine ⟨?_, ?_⟩
      · rw [List.getElem?_set_self (by omega)]
      · rw [List.getElem?_set_ne (by omega)]; exact (hc i hi).2
    · obtain ⟨e0, e1⟩ := hc i hi
      rw [upd_ne _ _ e, upd_ne _ _ e]
      refine ⟨?_, ?_⟩
      · rw [List.getElem?_set_ne (by omega), e0]
      · rw [List.getElem?_set_ne (by omega), e1]
  · by_cases e : i = j
    · subst e
      rw [upd_self, upd_self]
      exact (R.otherCell (fun e => by have := R.row_bd _ e; simp at this; omega) _).wide h0 (Nat.le_refl _)
    · rw [upd_ne _ _ e, upd_ne _ _ e]
      exact ((h.rows i hi).otherCell (p := ⟨g, j * 2, none⟩) (fun e => h.alone i hi g e rfl) _).wide (Nat.le_refl _) h2
  · intro e2
    by_cases e : i = j
    · subst e
      rw [upd_self] at hg'
      rw [upd_ne _ _ (fun e' => hne e'.symm)] at e2
      have := R.row_bd _ hg'
      have := (h.rows k hk).row_bd _ e2
      omega
    · rw [upd_ne _ _ e] at hg'
      by_cases e' : k = j
      · subst e'
        rw [upd_self] at e2
        have := R.row_bd _ e2
        have := (h.rows i hi).row_bd _ hg'
        omega
      · rw [upd_ne _ _ e'] at e2
        exact h.apart i k hi hk hne g' hg' e2
  · by_cases e : i = j
    · subst e
      rw [upd_self] at hg'
      intro e2
      have := R.row_bd _ hg'
      simp at e2
      omega
    · rw [upd_ne _ _ e] at hg'
      exact h.alone i hi g' hg'
/-- What is known of a drawn routine that is seldom not valid. -/
def DrawnBent (w0 w : World) (g : Nat) (A : Option Addr) (n c : Nat) (xs : List Int) (top : Nat) (e : Ending) (w' : World) : Prop :=
  ∃ (A1 : Option Addr) (k c1 : Nat) (h : Int) (ps : List (List Int × Int)), e = .returned (.agg #[.int .i64 h, .slice A1 k c1]) ∧ (∃ lo hi, w.heap.size < lo ∧ PRow w' lo hi A1 k c1 ps) ∧ bdP ps ∧ k ≤ 9 ∧ (-10 ≤ h ∧ h ≤ 100) ∧ Srd w0 w' g A n c xs top ∧ w.grownBy w' (some g)
theorem bent_fin {w0 w W : World} {g : Nat} {A : Option Addr} {n c : Nat} {xs : List Int} {top top' : Nat} {A1 : Option Addr} {k c1 lo hi : Nat} {h : Int} {ps : List (List Int × Int)} (hP : PRow W lo hi A1 k c1 ps) (hlo : w.heap.size < lo) (hb : bdP ps) (hk : k ≤ 9) (hh : -10 ≤ h ∧ h ≤ 100) (hS : Srd w0 W g A n c xs top) (hG : w.grownBy W (some g)) (hg : g < w.heap.size) (ht : top ≤ top') (u v : Value) :
    DrawnBent w0 w g A n c xs top' (.returned (.agg #[.int .i64 h, .slice A1 k c1])) ((W.setCell ⟨w.heap.size, 0, none⟩ u).setCell ⟨w.heap.size, 1, none⟩ v) :=
  ⟨A1, k, c1, h, ps, rfl, ⟨lo, hi, hlo, (hP.far (p := ⟨w.heap.size, 0, none⟩) (.inl hlo) u).far (p := ⟨w.heap.size, 1, none⟩) (.inl hlo) v⟩, hb, hk, hh, ((hS.put (p := ⟨w.heap.size, 0, none⟩) hg u).put (p := ⟨w.heap.size, 1, none⟩) hg v).more ht, grown_put (grown_put hG (p := ⟨w.heap.size, 0, none⟩) (Nat.le_refl _) u) (p := ⟨w.heap.size, 1, none⟩) (Nat.le_refl _) v⟩
theorem pt_set {ps : List (List Int × Int)} {q : List Int × Int} (h : 0 < ps.length) (i : Nat) : pt (ps.set 0 q) i = upd (pt ps) 0 q.1 i ∧ tm (ps.set 0 q) i = upd (tm ps) 0 q.2 i := by
  by_cases e : i = 0
  · subst e
    rw [upd_self, upd_self]
    unfold pt tm
    rw [List.getElem?_set_self h]
    exact ⟨rfl, rfl⟩
  · rw [upd_ne _ _ e, upd_ne _ _ e]
    unfold pt tm
    rw [List.getElem?_set_ne (Ne.symm e)]
    exact ⟨rfl, rfl⟩
theorem upd_same {α : Type} (f : Nat → α) (j i : Nat) : upd f j (f j) i = f i := by
  by_cases e : i = j
  · subst e; rw [upd_self]
  · rw [upd_ne _ _ e]
theorem bdP_set {ps : List (List Int × Int)} {q : List Int × Int} (hb : bdP ps) (h1 : q.1.length ≤ 1048576) (h2 : ∀ y ∈ q.1, -9223372036854775808 ≤ y ∧ y ≤ 9223372036854775807) (h3 : -9223372036854775808 ≤ q.2 ∧ q.2 ≤ 9223372036854775807) (h : 0 < ps.length) : bdP (ps.set 0 q) := fun i hi => by
  rw [List.length_set] at hi
  rw [(pt_set h i).1, (pt_set h i).2]
  by_cases e : i = 0
  · subst e
    rw [upd_self, upd_self]
    exact ⟨h1, h2, h3⟩
  · rw [upd_ne _ _ e, upd_ne _ _ e]
    exact hb i hi
theorem PRow.number0 {w : World} {lo hi g n c : Nat} {ps : List (List Int × Int)} (h : PRow w lo hi (some ⟨g, 0, none⟩) n c ps) (hn : 0 < n) (t : Int) : PRow (w.setCell ⟨g, 1, none⟩ (.int .i64 t)) lo hi (some ⟨g, 0, none⟩) n c (ps.set 0 (pt ps 0, t)) := by
  obtain ⟨H, hF⟩ := h.rows
  have hl : 0 < ps.length := by rw [h.len]; exact hn
  refine ⟨by rw [List.length_set]; exact h.len, H, (hF.number (j := 0) hn t).congr (fun i hi => ?_) (fun i hi => ?_)⟩
  · rw [(pt_set hl i).1]
    exact (upd_same _ _ _).symm
  · rw [(pt_set hl i).2]
theorem PRow.pat0 {w : World} {lo hi g n c : Nat} {ps : List (List Int × Int)} (h : PRow w lo hi (some ⟨g, 0, none⟩) n c ps) (hn : 0 < n) {lo2 hi2 : Nat} {B : Option Addr} {m d : Nat} {xs : List Int} (R : Row w lo2 hi2 2 1 B m d xs) (hm : xs.length = m) (h1 : hi ≤ lo2) (h2 : hi ≤ hi2) (h0 : lo ≤ lo2) : PRow (w.setCell ⟨g, 0, none⟩ (.slice B m d)) lo hi2 (some ⟨g, 0, none⟩) n c (ps.set 0 (xs, tm ps 0)) := by
  obtain ⟨H, hF⟩ := h.rows
  have hl : 0 < ps.length := by rw [h.len]; exact hn
  have hp := hF.pat (j := 0) hn R hm h1 h2 h0
  rw [Nat.zero_mul] at hp
  refine ⟨by rw [List.length_set]; exact h.len, _, hp.congr (fun i hi => ?_) (fun i hi => ?_)⟩
  · rw [(pt_set hl i).1]
  · rw [(pt_set hl i).2]
    exact (upd_same _ _ _).symm
theorem bdP_push {ps : List (List Int × Int)} {x : List Int} {t : Int} (hb : bdP ps) (h1 : x.length ≤ 1048576) (h2 : ∀ y ∈ x, -9223372036854775808 ≤ y ∧ y ≤ 9223372036854775807) (h3 : -9223372036854775808 ≤ t ∧ t ≤ 9223372036854775807) : bdP (ps ++ [(x, t)]) := fun i hi => by
  simp at hi
  by_cases e : i < ps.length
  · have e1 : pt (ps ++ [(x, t)]) i = pt ps i := by unfold pt; rw [List.getElem?_append_left e]
    have e2 : tm (ps ++ [(x, t)]) i = tm ps i := by unfold tm; rw [List.getElem?_append_left e]
    rw [e1, e2]
    exact hb i e
  · obtain rfl : i = ps.length := by omega
    have e1 : pt (ps ++ [(x, t)]) ps.length = x := by unfold pt; simp
    have e2 : tm (ps ++ [(x, t)]) ps.length = t := by unfold tm; simp
    rw [e1, e2]
    exact ⟨h1, h2, h3⟩
theorem intsK {w w' : World} {A : Option Addr} {n : Nat} {xs : List Int} (h : Ints w A n xs) (hs : w.heap.size ≤ w'.heap.size) (k : ∀ a, A = some a → w'.heap[a.block]? = w.heap[a.block]?) : Ints w' A n xs :=
  ⟨h.len, h.small, h.bds, fun hn => by
    obtain ⟨b, off, e, hb, hc⟩ := h.at_ hn
    exact ⟨b, off, e, Nat.lt_of_lt_of_le hb hs, fun i hi => (World.cell?_of_block (a := ⟨b, off + i, none⟩) (k ⟨b, off, none⟩ e)).trans (hc i hi)⟩⟩
theorem ints4 (W : World) (a b c d : Int) (h : (-1000 ≤ a ∧ a ≤ 1000) ∧ (-1000 ≤ b ∧ b ≤ 1000) ∧ (-1000 ≤ c ∧ c ≤ 1000) ∧ (-1000 ≤ d ∧ d ≤ 1000)) : Ints (W.alloc (.cells #[.int .i64 a, .int .i64 b, .int .i64 c, .int .i64 d] 2)) (some ⟨W.heap.size, 0, none⟩) 4 [a, b, c, d] := ⟨rfl, by omega, by intro x hx; simp at hx; omega, fun _ => ⟨W.heap.size, 0, rfl, by simp, fun i hi => by
  obtain rfl | rfl | rfl | rfl : i = 0 ∨ i = 1 ∨ i = 2 ∨ i = 3 := by omega
  · exact (cell_of_block (heap_alloc_new W _) 0).trans rfl
  · exact (cell_of_block (heap_alloc_new W _) 1).trans rfl
  · exact (cell_of_block (heap_alloc_new W _) 2).trans rfl
  · exact (cell_of_block (heap_alloc_new W _) 3).trans rfl⟩⟩
theorem ints3 (W : World) (a b c : Int) (h : (-1000 ≤ a ∧ a ≤ 1000) ∧ (-1000 ≤ b ∧ b ≤ 1000) ∧ (-1000 ≤ c ∧ c ≤ 1000)) : Ints (W.alloc (.cells #[.int .i64 a, .int .i64 b, .int .i64 c] 2)) (some ⟨W.heap.size, 0, none⟩) 3 [a, b, c] := ⟨rfl, by omega, by intro x hx; simp at hx; omega, fun _ => ⟨W.heap.size, 0, rfl, by simp, fun i hi => by
  obtain rfl | rfl | rfl : i = 0 ∨ i = 1 ∨ i = 2 := by omega
  · exact (cell_of_block (heap_alloc_new W _) 0).trans rfl
  · exact (cell_of_block (heap_alloc_new W _) 1).trans rfl
  · exact (cell_of_block (heap_alloc_new W _) 2).trans rfl⟩⟩
theorem l19Draw_is (q : Nat) (p : Int) (w0 w : World) (g : Nat) (A : Option Addr) (n c : Nat) (xs : List Int) (top : Nat) (h : Srd w0 w g A n c xs top) (hp : p = q) (ht : top ≤ 800000000) (hq : 1 ≤ q ∧ q ≤ 8) :
    Calls Tryd.prog 40 #[.pointer (some ⟨g, 0, none⟩), .int .i64 p] w (DrawnRou w0 w g A n c xs (top + 1000) q) := by
  subst hp
  exact l19Draw_any q w0 w g A n c xs top h ht hq
set_option maxHeartbeats 8000000 in
set_option maxRecDepth 100000 in
theorem l19Bent_any (w0 w : World) (g : Nat) (A : Option Addr) (n c : Nat) (xs : List Int) (top : Nat) (h : Srd w0 w g A n c xs top) (ht : top ≤ 700000000) :
    Calls Tryd.prog 38 #[.pointer (some ⟨g, 0, none⟩)] w (DrawnBent w0 w g A n c xs (top + 2000)) := by
  have hlt := h.lt
  have hRB := heap_alloc_new w (.cells #[.int .i64 0, .slice none 0 0] 29)
  have h1 := h.after (show Ext w (w.alloc (.cells #[.int .i64 0, .slice none 0 0] 29)) from (Ext.refl _).alloc _)
  have g1 := grown_new (World.grownBy.refl w (some g)) (.cells #[.int .i64 0, .slice none 0 0] 29)
  go_enter Tryd.func38, Tryd.ntmps38
  go_wp2_with fail
  (with_reducible refine (l19Draw_is 4 4 w0 _ g A n c xs top h1 rfl (by omega) (by omega)).mono ?_)
  rintro e w1 ⟨A1, k, c1, hh, ps, rfl, hP1, hok, hk4, hh9, hs1, hg1⟩
  have hR1 := blkG hg1 hRB (by intro e; cases e; omega)
  have G1 := grown_trans g1 hg1
  have hz1 := hg1.size
  simp at hz1
  have hP1 : PRow w1 (w.heap.size + 1) w1.heap.size A1 k c1 ps := by simpa using hP1
  have hO1 := heap_alloc_new w1 (.cells #[.int .i64 hh, .slice A1 k c1] 29)
  have hx1 : Ext w1 (w1.alloc (.cells #[.int .i64 hh, .slice A1 k c1] 29)) := (Ext.refl _).alloc _
  have hs1' := hs1.after hx1
  have G1' := grown_new G1 (.cells #[.int .i64 hh, .slice A1 k c1] 29)
  have hR1' := blkX hR1 hx1
  have hP1' := hP1.ext hx1
  clear h1 g1 hRB hg1 hs1 G1 hR1 hP1
  go_wp2_with fail
  (with_reducible refine (pick_any 20 w0 _ g A n c xs _ hs1' (by omega)).mono ?_)
  rintro e w2 ⟨v, rfl, hv, hs2, hg2⟩
  have hgw : g < w1.heap.size := by omega
  have hR2 := blkG hg2 hR1' (by intro e; cases e; omega)
  have hO2 := blkG hg2 hO1 (by intro e; cases e; omega)
  have hP2 := hP1'.drawn hg2 (by omega)
  have G2 := grown_trans G1' hg2
  have hz2 := hg2.size
  simp at hz2
  have hOlt : w1.heap.size < w2.heap.size := by omega
  have hv20 : 0 ≤ v ∧ v ≤ 19 := by omega
  have hbd := hok.bd
  obtain ⟨ga, rfl⟩ : ∃ ga, A1 = some ⟨ga, 0, none⟩ := by
    obtain ⟨H, hF⟩ := hP2.rows
    obtain ⟨ga, e, _⟩ := hF.form (by omega)
    exact ⟨ga, e⟩
  have hga : w.heap.size + 1 ≤ ga ∧ ga < w1.heap.size := by
    obtain ⟨H, hF⟩ := hP2.rows
    obtain ⟨cs, hr, _⟩ := hF.row
    exact hr.row_bd ga rfl
  have hgan : ¬ ga = w1.heap.size := by omega
  have hgaw : ¬ ga = w.heap.size := by omega
  have hk0 : (0 : Int) < k := by omega
  obtain ⟨t0, xs0, B0, d0, ec0, ec1, ef0, ef1, eI0⟩ : ∃ (t0 : Int) (xs0 : List Int) (B0 : Option Addr) (d0 : Nat), w2.cell? ⟨ga, 0, none⟩ = some (.slice B0 xs0.length d0) ∧ w2.cell? ⟨ga, 1, none⟩ = some (.int .i64 t0) ∧ w2.frozen? ⟨ga, 0, none⟩ = false ∧ w2.frozen? ⟨ga, 1, none⟩ = false ∧ Ints w2 B0 xs0.length xs0 ∧ xs0.length ≤ 5 ∧ (1 ≤ t0 ∧ t0 ≤ 4) ∧ (∀ y ∈ xs0, -20 ≤ y ∧ y ≤ 20) ∧ ∀ a, B0 = some a → w.heap.size + 1 ≤ a.block ∧ a.block < w1.heap.size := by
    obtain ⟨H, hF⟩ := hP2.rows
    obtain ⟨q0, q1, q2, q3⟩ := hF.cells (j := 0) (by omega)
    obtain ⟨o1, o2, o3⟩ := hok.2 0 (by omega)
    rw [Nat.zero_mul] at q0 q1 q2 q3
    have hI := (hF.rows 0 (by omega)).ints (by omega) (fun y hy => by have := thr_bd o1 y hy; omega)
    rw [Nat.mul_one] at hI
    exact ⟨_, _, _, _, q0, q1, q2, q3, hI, o2, o3, fun y hy => by have := thr_bd o1 y hy; omega, fun a ha => (hF.rows 0 (by omega)).row_bd a.block (by rw [ha]; rfl)⟩
  obtain ⟨eI0, exl, et0, eyb, eB0⟩ := eI0
  obtain ⟨⟨x0, x1⟩, f0, f1⟩ := blk2D hR2
  obtain ⟨⟨y0, y1⟩, f2, f3⟩ := blk2D hO2
  clear hs1' hR1' hP1' G1' hg2 hO1 hx1
  have HOK := Lib.hid hok
  have HBD := Lib.hid hbd
  have HP2 := Lib.hid hP2
  have HS2 := Lib.hid hs2
  have HG2 := Lib.hid G2
  have HR2 := Lib.hid hR2
  have HO2 := Lib.hid hO2
  have HI0 := Lib.hid eI0
  have HYB0 := Lib.hid eyb
  have HB0 := Lib.hid eB0
  clear eyb eB0
  clear hok hbd hP2 hs2 G2 hR2 hO2 eI0
  have hvc : v = 0 ∨ v = 1 ∨ v = 2 ∨ v = 3 ∨ v = 4 ∨ 5 ≤ v := by omega
  rcases hvc with rfl | rfl | rfl | rfl | rfl | hv5
  · -- the height
    have hx2 : Ext w2 (w2.alloc (.cells #[.int .i64 0, .int .i64 2, .int .i64 10, .int .i64 11] 2)) := (Ext.refl _).alloc _
    go_wp2_with fail
    (with_reducible refine (among_any _ 4 _ [0, 2, 10, 11] _ _ g A n c xs _ (HS2.out.after (by with_reducible (repeat (first | exact Ext.refl _ | apply Ext.drewN | apply Ext.drew | apply Ext.alloc | (refine Ext.set ?_ (by first | (simp; done) | (simp; omega) | omega) _) | (refine Ext.trans ?_ (by assumption)))))) (by omega) (ints4 _ 0 2 10 11 (by omega)) (by omega) (by rintro a e; cases e; show w2.heap.size ≠ g; omega)).mono ?_)
    rintro e w3 ⟨h3, rfl, hm3, hs3, hg3⟩
    have hb3 : 0 ≤ h3 ∧ h3 ≤ 11 := by simp at hm3; omega
    have hR3 := blkG hg3 (blkX HR2.out hx2) (by intro e; cases e; omega)
    have hO3 := blkG hg3 (blkX HO2.out hx2) (by intro e; cases e; omega)
    have hP3 := (HP2.out.ext hx2).drawn hg3 (by omega)
    have hz3 := hg3.size
    simp at hz3
    have HF := Lib.hid (fun (u v : Value) => bent_fin (w := w) (c1 := c1) (h := h3) (u := u) (v := v) (hP3.far (p := ⟨w1.heap.size, 0, none⟩) (.inr (Nat.le_refl _)) (.int .i64 h3)) (by omega) HBD.out (by omega) (by omega) (hs3.put (p := ⟨w1.heap.size, 0, none⟩) hgw (.int .i64 h3)) (grown_put (grown_trans (grown_new HG2.out _) hg3) (p := ⟨w1.heap.size, 0, none⟩) (by show w.heap.size ≤ w1.heap.size; omega) (.int .i64 h3)) hlt (top' := top + 2000) (by omega))
    clear x0 x1 f0 f1 y0 y1 f2 f3 ec0 ec1 ef0 ef1 hm3
    obtain ⟨⟨x0, x1⟩, f0, f1⟩ := blk2D hR3
    obtain ⟨⟨y0, y1⟩, f2, f3⟩ := blk2D hO3
    have hwne : ¬ w.heap.size = w1.heap.size := by omega
    have hwne2 : ¬ w1.heap.size = w.heap.size := by omega
    clear hR3 hO3 hP3 hs3 hg3 hx2
    go_wp2
    exact bodyPost_ret (v := .agg #[.int .i64 h3, .slice (some ⟨ga, 0, none⟩) k c1]) (by simp [results, Tryd.results38, go_sem, *]) rfl (HF.out _ _)
  · -- the times of the first part
    have hne1 : ∀ cc ∈ ([(⟨w1.heap.size, 1, none⟩, .slice (some ⟨ga, 0, none⟩) k c1)] : List (Addr × Value)), some cc.1.block ≠ some g := by
      intro cc hcc e
      simp only [List.mem_cons, List.not_mem_nil, or_false] at hcc
      subst hcc
      injection e with e
      have : w1.heap.size = g := e
      omega
    have HNE1 := Lib.hid hne1
    clear hne1
    have hwne : ¬ w.heap.size = w1.heap.size := by omega
    have hwne2 : ¬ w1.heap.size = w.heap.size := by omega
    have hgw2 : ¬ w.heap.size = ga := by omega
    have hk0n : 0 < k := by omega
    have hgw3 : ¬ w1.heap.size = ga := by omega
    clear x0 x1 f0 f1 y0 f2 f3
    go_upto_region 6 with fail
    refine wp_region_late 7 1 8 (Holds [(⟨w1.heap.size, 1, none⟩, .slice (some ⟨ga, 0, none⟩) k c1)]) rfl (by kernel_rfl) (by kernel_rfl) (by (simp only [Holds_cons, Holds_nil, and_true]); exact y1) (fun hHeld => ?_)
    refine wpAnyH_take (i := 0) (v := ?_) rfl (by kernel_rfl) (by kernel_rfl) (by kernel_rfl) (fun _ _ _ h => h) (Or.inl ⟨by rfl, ?hyh1⟩) hHeld ?_
    case hyh1 => ((intro wz hSw); (simp only [Holds_cons, Holds_nil, and_true] at hSw); (have hSw1 := hSw); go_simp; (try with_reducible rfl))
    (try simp only [List.getElem_toArray, List.getElem_cons_succ, List.getElem_cons_zero, Act.put, List.setIfInBounds_toArray, List.set_cons_zero, List.set_cons_succ])
    refine wpAnyH_take (i := 1) (v := ?_) rfl (by kernel_rfl) (by kernel_rfl) (by kernel_rfl) (fun _ _ _ h => h) (Or.inl ⟨by rfl, ?hyh2⟩) hHeld ?_
    case hyh2 => ((intro wz hSw); (simp only [Holds_cons, Holds_nil, and_true] at hSw); (have hSw1 := hSw); go_simp; (try with_reducible rfl))
    (try simp only [List.getElem_toArray, List.getElem_cons_succ, List.getElem_cons_zero, Act.put, List.setIfInBounds_toArray, List.set_cons_zero, List.set_cons_succ])
    refine wpAnyH_take (i := 2) (v := ?_) rfl (by kernel_rfl) (by kernel_rfl) (by kernel_rfl) (fun _ _ _ h => h) (Or.inl ⟨by rfl, ?hyh3⟩) hHeld ?_
    case hyh3 => ((intro wz hSw); (simp only [Holds_cons, Holds_nil, and_true] at hSw); (have hSw1 := hSw); go_simp; (try with_reducible rfl))
    (try simp only [List.getElem_toArray, List.getElem_cons_succ, List.getElem_cons_zero, Act.put, List.setIfInBounds_toArray, List.set_cons_zero, List.set_cons_succ])
    refine wpAnyH_ready (rs := [3]) (by kernel_rfl) (by simp) ?_
    refine AllReadyH.cons rfl (fun K hK => ?_) AllReadyH.nil
    go_simp
    refine hK.out _ _ (Holds.alloc hHeld _) (fun hHeldN => ?_)
    clear hK K hHeld
    have hHeld := hHeldN
    clear hHeldN
    (try simp only [List.getElem_toArray, List.getElem_cons_succ, List.getElem_cons_zero, Act.put, List.setIfInBounds_toArray, List.set_cons_zero, List.set_cons_succ])
    refine wpAnyH_ready (rs := [4]) (by kernel_rfl) (by simp) ?_
    refine AllReadyH.cons rfl (fun K hK => ?_) AllReadyH.nil
    go_simp
    (with_reducible refine (among_any _ 3 _ [0, 20, 21] _ _ g A n c xs _ (HS2.out.after (by with_reducible (repeat (first | exact Ext.refl _ | apply Ext.drewN | apply Ext.drew | apply Ext.alloc | (refine Ext.set ?_ (by first | (simp; done) | (simp; omega) | omega) _) | (refine Ext.trans ?_ (by assumption)))))) (by omega) ((ints3 w2 0 20 21 (by omega)).ext ((Ext.refl _).drew)) (by omega) (by rintro a e; cases e; show w2.heap.size ≠ g; omega)).mono ?_)
    rintro e w3 ⟨t3, rfl, hm3, hs3, hg3⟩
    (try go_wp2_with fail)
    have hx2 : Ext w2 (w2.alloc (.cells #[.int .i64 0, .int .i64 20, .int .i64 21] 2)).drew := ((Ext.refl _).alloc _).drew
    have hb3 : 0 ≤ t3 ∧ t3 ≤ 21 := by simp at hm3; omega
    have hR3 := blkG hg3 (blkX HR2.out hx2) (by intro e; cases e; omega)
    have hO3 := blkG hg3 (blkX HO2.out hx2) (by intro e; cases e; omega)
    have hP3 := (HP2.out.ext hx2).drawn hg3 (by omega)
    have hz3 : w2.heap.size ≤ w3.heap.size := Nat.le_trans hx2.size hg3.size
    have ec3 : w3.cell? ⟨ga, 1, none⟩ = some (.int .i64 t0) := (grown_cell hg3 (by show ga < _; have := hx2.size; omega) (by omega) 1).trans (hx2.cell (by omega) ec1)
    have ef3 : w3.frozen? ⟨ga, 1, none⟩ = false := by rw [World.frozen?_of_block (hg3.block ga (by have := hx2.size; omega) (by intro e; cases e; omega))]; exact (hx2.cells.2 ga 1 (by omega)).trans ef1
    refine hK.out _ _ (HoldsD hHeld hg3 HNE1.out) (fun hHeldN => ?_)
    clear hK K hHeld
    have hHeld := hHeldN
    clear hHeldN
    (try simp only [List.getElem_toArray, List.getElem_cons_succ, List.getElem_cons_zero, Act.put, List.setIfInBounds_toArray, List.set_cons_zero, List.set_cons_succ])
    refine wpAnyH_take (i := 5) (v := ?_) rfl (by kernel_rfl) (by kernel_rfl) (by kernel_rfl) (fun _ _ _ h => h) (Or.inl ⟨by rfl, ?hyh4⟩) hHeld ?_
    case hyh4 => ((intro wz hSw); (simp only [Holds_cons, Holds_nil, and_true] at hSw); (have hSw1 := hSw); go_simp; (try with_reducible rfl))
    (try simp only [List.getElem_toArray, List.getElem_cons_succ, List.getElem_cons_zero, Act.put, List.setIfInBounds_toArray, List.set_cons_zero, List.set_cons_succ])
    refine wpAnyH_take (i := 6) (v := ?_) rfl (by kernel_rfl) (by kernel_rfl) (by kernel_rfl) (fun _ _ _ h => h) (Or.inl ⟨by rfl, ?hyh5⟩) hHeld ?_
    case hyh5 => ((intro wz hSw); (simp only [Holds_cons, Holds_nil, and_true] at hSw); (have hSw1 := hSw); go_simp; (try with_reducible rfl))
    (try simp only [List.getElem_toArray, List.getElem_cons_succ, List.getElem_cons_zero, Act.put, List.setIfInBounds_toArray, List.set_cons_zero, List.set_cons_succ])
    refine wpAnyH_done (by kernel_rfl) ?_ _
    refine LateQ.normal ?_
    refine wpAny_ready (rs := [7]) (by kernel_rfl) (by simp) ?_
    refine AllReady.cons rfl (fun K hK => ?_) AllReady.nil
    go_simp
    (try (refine hK _ _ ?_; clear hK K))
    (try simp only [List.getElem_toArray, List.getElem_cons_succ, List.getElem_cons_zero, Act.put, List.setIfInBounds_toArray, List.set_cons_zero, List.set_cons_succ])
    refine wpAny_done (by kernel_rfl) ?_ _
    have hR4 := blkS hR3 (p := ⟨ga, 1, none⟩) (by show w.heap.size ≠ ga; omega) (.int .i64 t3)
    have hO4 := blkS hO3 (p := ⟨ga, 1, none⟩) (by show w1.heap.size ≠ ga; omega) (.int .i64 t3)
    have HF := Lib.hid (fun (u v : Value) => bent_fin (w := w) (c1 := c1) (h := hh) (u := u) (v := v) (hP3.number0 (by omega) t3) (by omega) (bdP_set HBD.out (HBD.out 0 (by rw [HOK.out.1]; omega)).1 (HBD.out 0 (by rw [HOK.out.1]; omega)).2.1 (by show _ ≤ t3 ∧ t3 ≤ _; omega) (by rw [HOK.out.1]; omega)) (by omega) (by omega) (hs3.put (p := ⟨ga, 1, none⟩) (by show g < ga; omega) (.int .i64 t3)) (grown_put (grown_trans (grown_exts HG2.out hx2) hg3) (p := ⟨ga, 1, none⟩) (by show w.heap.size ≤ ga; omega) (.int .i64 t3)) hlt (top' := top + 2000) (by omega))
    obtain ⟨⟨x0, x1⟩, f0, f1⟩ := blk2D hR4
    obtain ⟨⟨z0, z1⟩, f2, f3⟩ := blk2D hO4
    clear hR4 hO4 hR3 hO3 hP3 hs3 hg3 hx2 hm3 hHeld ec3 ef3 y1
    go_wp2
    exact bodyPost_ret (v := .agg #[.int .i64 hh, .slice (some ⟨ga, 0, none⟩) k c1]) (by simp [results, Tryd.results38, go_sem, *]) rfl (HF.out _ _)
  · -- the pattern of the first part
    have hne1 : ∀ cc ∈ ([(⟨w1.heap.size, 1, none⟩, .slice (some ⟨ga, 0, none⟩) k c1)] : List (Addr × Value)), some cc.1.block ≠ some g := by
      intro cc hcc e
      simp only [List.mem_cons, List.not_mem_nil, or_false] at hcc
      subst hcc
      injection e with e
      have : w1.heap.size = g := e
      omega
    have HNE1 := Lib.hid hne1
    clear hne1
    have hwne : ¬ w.heap.size = w1.heap.size := by omega
    have hwne2 : ¬ w1.heap.size = w.heap.size := by omega
    have hgw2 : ¬ w.heap.size = ga := by omega
    have hk0n : 0 < k := by omega
    have hgw3 : ¬ w1.heap.size = ga := by omega
    clear x0 x1 f0 f1 y0 f2 f3
    go_upto_region 8 with fail
    refine wp_region_late 6 1 8 (Holds [(⟨w1.heap.size, 1, none⟩, .slice (some ⟨ga, 0, none⟩) k c1)]) rfl (by kernel_rfl) (by kernel_rfl) (by (simp only [Holds_cons, Holds_nil, and_true]); exact y1) (fun hHeld => ?_)
    refine wpAnyH_take (i := 0) (v := ?_) rfl (by kernel_rfl) (by kernel_rfl) (by kernel_rfl) (fun _ _ _ h => h) (Or.inl ⟨by rfl, ?hyh6⟩) hHeld ?_
    case hyh6 => ((intro wz hSw); (simp only [Holds_cons, Holds_nil, and_true] at hSw); (have hSw1 := hSw); go_simp; (try with_reducible rfl))
    (try simp only [List.getElem_toArray, List.getElem_cons_succ, List.getElem_cons_zero, Act.put, List.setIfInBounds_toArray, List.set_cons_zero, List.set_cons_succ])
    refine wpAnyH_take (i := 1) (v := ?_) rfl (by kernel_rfl) (by kernel_rfl) (by kernel_rfl) (fun _ _ _ h => h) (Or.inl ⟨by rfl, ?hyh7⟩) hHeld ?_
    case hyh7 => ((intro wz hSw); (simp only [Holds_cons, Holds_nil, and_true] at hSw); (have hSw1 := hSw); go_simp; (try with_reducible rfl))
    (try simp only [List.getElem_toArray, List.getElem_cons_succ, List.getElem_cons_zero, Act.put, List.setIfInBounds_toArray, List.set_cons_zero, List.set_cons_succ])
    refine wpAnyH_take (i := 2) (v := ?_) rfl (by kernel_rfl) (by kernel_rfl) (by kernel_rfl) (fun _ _ _ h => h) (Or.inl ⟨by rfl, ?hyh8⟩) hHeld ?_
    case hyh8 => ((intro wz hSw); (simp only [Holds_cons, Holds_nil, and_true] at hSw); (have hSw1 := hSw); go_simp; (try with_reducible rfl))
    (try simp only [List.getElem_toArray, List.getElem_cons_succ, List.getElem_cons_zero, Act.put, List.setIfInBounds_toArray, List.set_cons_zero, List.set_cons_succ])
    refine wpAnyH_ready (rs := [3]) (by kernel_rfl) (by simp) ?_
    refine AllReadyH.cons rfl (fun K hK => ?_) AllReadyH.nil
    go_simp
    (with_reducible refine (l02Bent_any w0 _ g A n c xs _ (HS2.out.after (by with_reducible (repeat (first | exact Ext.refl _ | apply Ext.drewN | apply Ext.drew | apply Ext.alloc | (refine Ext.set ?_ (by first | (simp; done) | (simp; omega) | omega) _) | (refine Ext.trans ?_ (by assumption)))))) (by omega)).mono ?_)
    rintro e w3 ⟨B3, m3, d3, ys, rfl, hown3, hm3, hyb3, hs3, hg3⟩
    (try go_wp2_with fail)
    have hx2 : Ext w2 w2.drew := (Ext.refl _).drew
    have R3 : Row w3 w2.heap.size w3.heap.size 2 1 B3 m3 d3 ys := ⟨hown3, fun a ha => (World.ownsRow.lt hown3 a.block (by rw [ha]; rfl)).2⟩
    have hyl3 : ys.length = m3 := by have := R3.len; omega
    have hR3 := blkG hg3 (blkX HR2.out hx2) (by intro e; cases e; omega)
    have hO3 := blkG hg3 (blkX HO2.out hx2) (by intro e; cases e; omega)
    have hP3 := (HP2.out.ext hx2).drawn hg3 (by omega)
    have hz3 : w2.heap.size ≤ w3.heap.size := hg3.size
    have ec3 : w3.cell? ⟨ga, 0, none⟩ = some (.slice B0 xs0.length d0) := (grown_cell hg3 (by show ga < _; have := hx2.size; omega) (by omega) 0).trans (hx2.cell (by omega) ec0)
    have ef3 : w3.frozen? ⟨ga, 0, none⟩ = false := by rw [World.frozen?_of_block (hg3.block ga (by have := hx2.size; omega) (by intro e; cases e; omega))]; exact (hx2.cells.2 ga 0 (by omega)).trans ef0
    refine hK.out _ _ (HoldsD hHeld hg3 HNE1.out) (fun hHeldN => ?_)
    clear hK K hHeld
    have hHeld := hHeldN
    clear hHeldN
    (try simp only [List.getElem_toArray, List.getElem_cons_succ, List.getElem_cons_zero, Act.put, List.setIfInBounds_toArray, List.set_cons_zero, List.set_cons_succ])
    refine wpAnyH_take (i := 4) (v := ?_) rfl (by kernel_rfl) (by kernel_rfl) (by kernel_rfl) (fun _ _ _ h => h) (Or.inl ⟨by rfl, ?hyh9⟩) hHeld ?_
    case hyh9 => ((intro wz hSw); (simp only [Holds_cons, Holds_nil, and_true] at hSw); (have hSw1 := hSw); go_simp; (try with_reducible rfl))
    (try simp only [List.getElem_toArray, List.getElem_cons_succ, List.getElem_cons_zero, Act.put, List.setIfInBounds_toArray, List.set_cons_zero, List.set_cons_succ])
    refine wpAnyH_take (i := 5) (v := ?_) rfl (by kernel_rfl) (by kernel_rfl) (by kernel_rfl) (fun _ _ _ h => h) (Or.inl ⟨by rfl, ?hyh10⟩) hHeld ?_
    case hyh10 => ((intro wz hSw); (simp only [Holds_cons, Holds_nil, and_true] at hSw); (have hSw1 := hSw); go_simp; (try with_reducible rfl))
    (try simp only [List.getElem_toArray, List.getElem_cons_succ, List.getElem_cons_zero, Act.put, List.setIfInBounds_toArray, List.set_cons_zero, List.set_cons_succ])
    refine wpAnyH_done (by kernel_rfl) ?_ _
    refine LateQ.normal ?_
    refine wpAny_ready (rs := [6]) (by kernel_rfl) (by simp) ?_
    refine AllReady.cons rfl (fun K hK => ?_) AllReady.nil
    go_simp
    (try (refine hK _ _ ?_; clear hK K))
    (try simp only [List.getElem_toArray, List.getElem_cons_succ, List.getElem_cons_zero, Act.put, List.setIfInBounds_toArray, List.set_cons_zero, List.set_cons_succ])
    refine wpAny_done (by kernel_rfl) ?_ _
    have hR4 := blkS hR3 (p := ⟨ga, 0, none⟩) (by show w.heap.size ≠ ga; omega) (.slice B3 m3 d3)
    have hO4 := blkS hO3 (p := ⟨ga, 0, none⟩) (by show w1.heap.size ≠ ga; omega) (.slice B3 m3 d3)
    have HF := Lib.hid (fun (u v : Value) => bent_fin (w := w) (c1 := c1) (h := hh) (u := u) (v := v) (hP3.pat0 (by omega) R3 hyl3 (by omega) (by omega) (by omega)) (by omega) (bdP_set HBD.out (by show ys.length ≤ 1048576; omega) (fun y hy => by have := hyb3 y hy; omega) (HBD.out 0 (by rw [HOK.out.1]; omega)).2.2 (by rw [HOK.out.1]; omega)) (by omega) (by omega) (hs3.put (p := ⟨ga, 0, none⟩) (by show g < ga; omega) (.slice B3 m3 d3)) (grown_put (grown_trans (grown_exts HG2.out hx2) hg3) (p := ⟨ga, 0, none⟩) (by show w.heap.size ≤ ga; omega) (.slice B3 m3 d3)) hlt (top' := top + 2000) (by omega))
    obtain ⟨⟨x0, x1⟩, f0, f1⟩ := blk2D hR4
    obtain ⟨⟨z0, z1⟩, f2, f3⟩ := blk2D hO4
    clear hR4 hO4 hR3 hO3 hP3 hs3 hg3 hx2 hm3 hHeld ec3 ef3 y1 hyb3 hown3 R3
    go_wp2
    exact bodyPost_ret (v := .agg #[.int .i64 hh, .slice (some ⟨ga, 0, none⟩) k c1]) (by simp [results, Tryd.results38, go_sem, *]) rfl (HF.out _ _)
  · -- no parts
    have HF := Lib.hid (fun (u v : Value) => bent_fin (w := w) (c1 := 0) (h := hh) (u := u) (v := v) (PRow.nil (w2.setCell ⟨w1.heap.size, 1, none⟩ (.slice none 0 0)) (w.heap.size + 1) 0) (by omega) (fun i hi => absurd hi (Nat.not_lt_zero _)) (by omega) (by omega) (HS2.out.put (p := ⟨w1.heap.size, 1, none⟩) hgw (.slice none 0 0)) (grown_put HG2.out (p := ⟨w1.heap.size, 1, none⟩) (by show w.heap.size ≤ w1.heap.size; omega) (.slice none 0 0)) hlt (top' := top + 2000) (by omega))
    have hwne : ¬ w.heap.size = w1.heap.size := by omega
    have hwne2 : ¬ w1.heap.size = w.heap.size := by omega
    go_wp2
    exact bodyPost_ret (v := .agg #[.int .i64 hh, .slice none 0 0]) (by simp [results, Tryd.results38, go_sem, *]) rfl (HF.out _ _)
  · -- many parts
    have hwne : ¬ w.heap.size = w1.heap.size := by omega
    have hwne2 : ¬ w1.heap.size = w.heap.size := by omega
    have hgp : w2.heap.size = (w2.setCell ⟨w1.heap.size, 1, none⟩ (.slice none 0 0)).heap.size := by simp [World.setCell]
    have hp2 : Ext (w2.setCell ⟨w1.heap.size, 1, none⟩ (.slice none 0 0)) ((w2.setCell ⟨w1.heap.size, 1, none⟩ (.slice none 0 0)).alloc (.cells #[.slice B0 xs0.length d0, .int .i64 t0] 52)) := (Ext.refl _).alloc _
    have hPB2 := heap_alloc_new (w2.setCell ⟨w1.heap.size, 1, none⟩ (.slice none 0 0)) (.cells #[.slice B0 xs0.length d0, .int .i64 t0] 52)
    rw [← hgp] at hPB2
    have hW : ∃ W : World, (w2.setCell ⟨w1.heap.size, 1, none⟩ (.slice none 0 0)).alloc (.cells #[.slice B0 xs0.length d0, .int .i64 t0] 52) = W ∧ W.heap[w.heap.size]? = some (.cells #[.int .i64 0, .slice none 0 0] 29) ∧ W.heap[w2.heap.size]? = some (.cells #[.slice B0 xs0.length d0, .int .i64 t0] 52) ∧ (W.cell? ⟨w1.heap.size, 0, none⟩ = some (.int .i64 hh) ∧ W.cell? ⟨w1.heap.size, 1, none⟩ = some (.slice none 0 0)) ∧ (∀ o, W.frozen? ⟨w1.heap.size, o, none⟩ = false) ∧ Ints W B0 xs0.length xs0 ∧ Srd w0 W g A n c xs (top + 1002) ∧ w.grownBy W (some g) ∧ W.heap.size = w2.heap.size + 1 := by
      refine ⟨_, rfl, blkX (blkS HR2.out (p := ⟨w1.heap.size, 1, none⟩) (by show w.heap.size ≠ w1.heap.size; omega) _) hp2, hPB2, ⟨?_, ?_⟩, fun o => ?_, (intsK (w' := w2.setCell ⟨w1.heap.size, 1, none⟩ (.slice none 0 0)) HI0.out (by simp [World.setCell]) (fun a ha => Below.heap_setCell _ _ _ _ (by have := HB0.out a ha; intro e; have e2 : a.block = w1.heap.size := e; omega))).ext hp2, ((HS2.out.put (p := ⟨w1.heap.size, 1, none⟩) hgw _).after hp2).more (by omega), grown_new (grown_put HG2.out (p := ⟨w1.heap.size, 1, none⟩) (by show w.heap.size ≤ w1.heap.size; omega) _) _, by simp [World.setCell]⟩
      · rw [hp2.cell (by rw [← hgp]; exact hOlt) ((World.cell?_setCell_other _ _ _ _ (fun e => by cases e)).trans y0)]
      · exact hp2.cell (by rw [← hgp]; exact hOlt) (World.cell?_setCell_same _ _ _ y1)
      · exact (hp2.cells.2 _ o (by rw [← hgp]; exact hOlt)).trans ((World.frozen?_setCell _ _ _ _).trans (unfrozen_of_block HO2.out o))
    obtain ⟨W, hWe, hWR, hWP, hWO, hWf, hWI, hWS, hWG, hWz⟩ := hW
    have HWE := Lib.hid hWe
    clear hWe hPB2 hp2 hgp
    go_wp2_with fail
    rw [HWE.out]
    (with_reducible refine (pick_any 2 w0 _ g A n c xs _ hWS (by omega)).mono ?_)
    rintro e w3 ⟨x, rfl, hx, hs3, hg3⟩
    have hR3 := blkG hg3 hWR (by intro e; cases e; omega)
    have hP3 := blkG hg3 hWP (by intro e; cases e; omega)
    have hg1z : w1.heap.size < W.heap.size := by omega
    have hO3 : Outs w3 w1.heap.size (w2.heap.size + 1) hh 0 [] none 0 := ⟨(grown_cell hg3 hg1z (by omega) 0).trans hWO.1, (grown_cell hg3 hg1z (by omega) 1).trans hWO.2, fun o => by rw [World.frozen?_of_block (hg3.block _ hg1z (by intro e; injection e with e; have e2 : w1.heap.size = g := e; omega))]; exact hWf o, by omega, by have := hg3.size; omega, PRow.nil _ _ _⟩
    have hI3 := intsK hWI hg3.size (fun a ha => by
      have h9 := HB0.out a ha
      generalize a.block = b at *
      exact hg3.block b (by omega) (by intro e; cases e; omega))
    have G3 := grown_trans hWG hg3
    have hz3 := hg3.size
    obtain ⟨r, hr⟩ : ∃ r : Nat, 8 + x = r := ⟨(8 + x).toNat, by omega⟩
    have hr9 : 8 ≤ r ∧ r ≤ 9 := by omega
    have hrw : IntKind.i64.wrap (8 + x) = r := by rw [hr]; exact IntWalk.i64_in _ (by omega)
    clear hWR hWP hWO hWf hWI hWS hWG hg3 x0 x1 f0 f1 y0 y1 f2 f3 ec0 ec1 ef0 ef1 HR2 HO2 HI0 HP2 HS2 HG2
    go_wp2
    go_loopw [5] (fun i wr => ∃ (j : Nat) (qs : List (List Int × Int)) (A3 : Option Addr) (c3 : Nat), j ≤ r ∧ i = .int .i64 ((r : Int) - j) ∧ Hid (Outs wr w1.heap.size (w2.heap.size + 1) hh j qs A3 c3 ∧ wr.heap[w.heap.size]? = some (.cells #[.int .i64 0, .slice none 0 0] 29) ∧ wr.heap[w2.heap.size]? = some (.cells #[.slice B0 xs0.length d0, .int .i64 t0] 52) ∧ Ints wr B0 xs0.length xs0 ∧ Srd w0 wr g A n c xs (top + 1010) ∧ w.grownBy wr (some g) ∧ bdP qs)) (fun i _ => (intOf i).toNat)
    case atStart => exact ⟨0, [], none, 0, Nat.zero_le _, (by simp [hr]), hO3, hR3, hP3, hI3, hs3.more (by omega), G3, fun i hi => absurd hi (Nat.not_lt_zero _)⟩
    case round =>
      obtain ⟨j, qs, A3, c3, hj, rfl, HI⟩ := hrel
      obtain ⟨hO, hR, hPB, hII, hS, hG, hbq⟩ := HI.out
      clear hO3 hR3 hP3 hI3 hs3 G3 HI
      have hle := hO.le
      have hgl : w1.heap.size < wr.heap.size := by omega
      by_cases hlt2 : j < r
      · have hki : (0 : Int) < (r : Int) - j := by omega
        have oc1 := hO.c1
        obtain ⟨⟨p0, p1⟩, pf0, pf1⟩ := blk2D hPB
        have hpl : w2.heap.size < wr.heap.size := by omega
        have hrowA : ∀ b, A3.map (·.block) = some b → w2.heap.size + 1 ≤ b := by
          obtain ⟨H, hF⟩ := hO.P.rows
          obtain ⟨cs, hr', _⟩ := hF.row
          intro b hb
          exact (hr'.row_bd _ hb).1
        have hne2 : ∀ cc ∈ ([(⟨w1.heap.size, 1, none⟩, .slice A3 j c3)] : List (Addr × Value)), some cc.1.block ≠ A3.map (·.block) := by
          intro cc hcc e
          have hrb := hrowA _ e.symm
          simp only [List.mem_cons, List.not_mem_nil, or_false] at hcc
          subst hcc
          have : w2.heap.size + 1 ≤ w1.heap.size := hrb
          omega
        have HNE2 := Lib.hid hne2
        have HRA := Lib.hid hrowA
        have HO := Lib.hid hO
        have HR := Lib.hid hR
        have HPB := Lib.hid hPB
        have HII := Lib.hid hII
        have HSS := Lib.hid hS
        have HGG := Lib.hid hG
        have HBQ := Lib.hid hbq
        clear hne2 hrowA hO hR hPB hII hS hG hbq
        go_upto_region 17 with fail
        refine wp_region_late 6 1 8 (Holds [(⟨w1.heap.size, 1, none⟩, .slice A3 j c3)]) rfl (by kernel_rfl) (by kernel_rfl) (by (simp only [Holds_cons, Holds_nil, and_true]); exact oc1) (fun hHeld => ?_)
        refine wpAnyH_take (i := 0) (v := ?_) rfl (by kernel_rfl) (by kernel_rfl) (by kernel_rfl) (fun _ _ _ h => h) (Or.inl ⟨by rfl, ?hyh11⟩) hHeld ?_
        case hyh11 => ((intro wz hSw); (simp only [Holds_cons, Holds_nil, and_true] at hSw); (have hSw1 := hSw); go_simp; (try with_reducible rfl))
        (try simp only [List.getElem_toArray, List.getElem_cons_succ, List.getElem_cons_zero, Act.put, List.setIfInBounds_toArray, List.set_cons_zero, List.set_cons_succ])
        refine wpAnyH_take (i := 1) (v := ?_) rfl (by kernel_rfl) (by kernel_rfl) (by kernel_rfl) (fun _ _ _ h => h) (Or.inl ⟨by rfl, ?hyh12⟩) hHeld ?_
        case hyh12 => ((intro wz hSw); (simp only [Holds_cons, Holds_nil, and_true] at hSw); (have hSw1 := hSw); go_simp; (try with_reducible rfl))
        (try simp only [List.getElem_toArray, List.getElem_cons_succ, List.getElem_cons_zero, Act.put, List.setIfInBounds_toArray, List.set_cons_zero, List.set_cons_succ])
        refine wpAnyH_ready (rs := [2]) (by kernel_rfl) (by simp) ?_
        refine AllReadyH.cons rfl (fun K hK => ?_) AllReadyH.nil
        go_simp
        have qpl : w2.heap.size < wr.drew.heap.size := hpl
        have qp0 : wr.drew.cell? ⟨w2.heap.size, 0, none⟩ = some (.slice B0 xs0.length d0) := p0
        have qp1 : wr.drew.cell? ⟨w2.heap.size, 1, none⟩ = some (.int .i64 t0) := p1
        (with_reducible refine (l19Own_any w2.heap.size 0 B0 xs0.length d0 xs0 t0 wr.drew qpl qp0 qp1 (HII.out.ext ((Ext.refl wr).drew)) (by omega)).mono ?_)
        rintro e w5 ⟨B5, c5, rfl, R5, hx5⟩
        (try go_wp2_with fail)
        have hx5d : Ext wr w5 := (show Ext wr wr.drew from (Ext.refl _).drew).trans hx5
        have hz5 := hx5d.size
        refine hK.out _ _ (fun c hc => (Below.cell hx5 (World.block_lt_of_cell? _ c.1 (hHeld c hc))).trans (hHeld c hc)) (fun hHeldN => ?_)
        clear hK K hHeld
        have hHeld := hHeldN
        clear hHeldN
        (try simp only [List.getElem_toArray, List.getElem_cons_succ, List.getElem_cons_zero, Act.put, List.setIfInBounds_toArray, List.set_cons_zero, List.set_cons_succ])
        refine wpAnyH_ready (rs := [3]) (by kernel_rfl) (by simp) ?_
        refine AllReadyH.cons rfl (fun K hK => ?_) AllReadyH.nil
        go_simp
        refine hK.out _ _ (Holds.alloc hHeld _) (fun hHeldN => ?_)
        clear hK K hHeld
        have hHeld := hHeldN
        clear hHeldN
        (try simp only [List.getElem_toArray, List.getElem_cons_succ, List.getElem_cons_zero, Act.put, List.setIfInBounds_toArray, List.set_cons_zero, List.set_cons_succ])
        refine wpAnyH_ready (rs := [4]) (by kernel_rfl) (by simp) ?_
        refine AllReadyH.cons rfl (fun K hK => ?_) AllReadyH.nil
        have hpa : Ext w5 (w5.alloc (.cells #[.slice B5 xs0.length c5, .int .i64 t0] 52)) := (Ext.refl _).alloc _
        have HPW := Lib.hid ((HO.out.P.ext hx5d).ext hpa)
        have RW := Lib.hid (R5.ext hpa)
        have HOW := Lib.hid ((HO.out.ext hx5d).ext hpa)
        refine stepP (by rfl) _ _ (by rfl) (by rfl) HPW.out (by omega) (by rfl) (heap_alloc_new _ _) (by rfl) RW.out rfl (by show wr.heap.size ≤ wr.heap.size; omega) (by first | (simp; done) | (simp; omega) | omega) (by show w2.heap.size + 1 ≤ wr.heap.size; omega) (by show wr.heap.size ≤ w5.heap.size; omega) ?_
        intro A6 c6 w6 P6 hg6
        obtain ⟨v1, v2, v3⟩ := HOW.out.push P6 hg6
        have hKeep := HoldsD hHeld hg6 HNE2.out
        refine hK.out _ _ (hKeep) (fun hHeldN => ?_)
        clear hK K hHeld
        have hHeld := hHeldN
        clear hHeldN
        (try simp only [List.getElem_toArray, List.getElem_cons_succ, List.getElem_cons_zero, Act.put, List.setIfInBounds_toArray, List.set_cons_zero, List.set_cons_succ])
        refine wpAnyH_take (i := 5) (v := ?_) rfl (by kernel_rfl) (by kernel_rfl) (by kernel_rfl) (fun _ _ _ h => h) (Or.inl ⟨by rfl, ?hyh13⟩) hHeld ?_
        case hyh13 => ((intro wz hSw); (simp only [Holds_cons, Holds_nil, and_true] at hSw); (have hSw1 := hSw); go_simp; (try with_reducible rfl))
        (try simp only [List.getElem_toArray, List.getElem_cons_succ, List.getElem_cons_zero, Act.put, List.setIfInBounds_toArray, List.set_cons_zero, List.set_cons_succ])
        refine wpAnyH_done (by kernel_rfl) ?_ _
        refine LateQ.normal ?_
        refine wpAny_ready (rs := [6]) (by kernel_rfl) (by simp) ?_
        refine AllReady.cons rfl (fun K hK => ?_) AllReady.nil
        go_simp
        (try (refine hK _ _ ?_; clear hK K))
        (try simp only [List.getElem_toArray, List.getElem_cons_succ, List.getElem_cons_zero, Act.put, List.setIfInBounds_toArray, List.set_cons_zero, List.set_cons_succ])
        refine wpAny_done (by kernel_rfl) ?_ _
        have hxx := hx5d.trans hpa
        have hs6 := ((HSS.out.after hxx).own hg6 (fun b hb => by have := HRA.out b hb; omega)).put (p := ⟨w1.heap.size, 1, none⟩) hgw (.slice A6 (j + 1) c6)
        have G6 := grown_put (grown_own (grown_exts HGG.out hxx) hg6 (fun b hb => by have := HRA.out b hb; omega)) (p := ⟨w1.heap.size, 1, none⟩) (by show w.heap.size ≤ w1.heap.size; omega) (.slice A6 (j + 1) c6)
        have hR6 := blkS (blkG hg6 (blkX HR.out hxx) (by intro e; have := HRA.out _ e.symm; omega)) (p := ⟨w1.heap.size, 1, none⟩) (by show w.heap.size ≠ w1.heap.size; omega) (.slice A6 (j + 1) c6)
        have hP6 := blkS (blkG hg6 (blkX HPB.out hxx) (by intro e; have := HRA.out _ e.symm; omega)) (p := ⟨w1.heap.size, 1, none⟩) (by show w2.heap.size ≠ w1.heap.size; omega) (.slice A6 (j + 1) c6)
        have hI6 := intsK (intsK (HII.out.ext hxx) hg6.size (fun a ha => hg6.block _ (by have := HB0.out a ha; have := hxx.size; omega) (by intro e; have := HB0.out a ha; have := HRA.out _ e.symm; omega))) (w' := w6.setCell ⟨w1.heap.size, 1, none⟩ (.slice A6 (j + 1) c6)) (by simp [World.setCell]) (fun a ha => Below.heap_setCell _ _ _ _ (by have := HB0.out a ha; intro e; have e2 : a.block = w1.heap.size := e; omega))
        have hbq6 : bdP (qs ++ [(xs0, t0)]) := bdP_push HBQ.out (by omega) (fun y hy => by have := HYB0.out y hy; omega) (by omega)
        have HN : Hid (Outs (w6.setCell ⟨w1.heap.size, 1, none⟩ (.slice A6 (j + 1) c6)) w1.heap.size (w2.heap.size + 1) hh (j + 1) (qs ++ [(xs0, t0)]) A6 c6 ∧ (w6.setCell ⟨w1.heap.size, 1, none⟩ (.slice A6 (j + 1) c6)).heap[w.heap.size]? = some (.cells #[.int .i64 0, .slice none 0 0] 29) ∧ (w6.setCell ⟨w1.heap.size, 1, none⟩ (.slice A6 (j + 1) c6)).heap[w2.heap.size]? = some (.cells #[.slice B0 xs0.length d0, .int .i64 t0] 52) ∧ Ints (w6.setCell ⟨w1.heap.size, 1, none⟩ (.slice A6 (j + 1) c6)) B0 xs0.length xs0 ∧ Srd w0 (w6.setCell ⟨w1.heap.size, 1, none⟩ (.slice A6 (j + 1) c6)) g A n c xs (top + 1010) ∧ w.grownBy (w6.setCell ⟨w1.heap.size, 1, none⟩ (.slice A6 (j + 1) c6)) (some g) ∧ bdP (qs ++ [(xs0, t0)])) := ⟨v3, hR6, hP6, hI6, hs6, G6, hbq6⟩
        clear hs6 G6 hR6 hP6 hI6 hbq6 v1 v2 v3 P6 hg6 hx5 hx5d HPW RW HOW hHeld p0 p1 pf0 pf1 R5
        go_wp2
        go_roundw
        case rel => exact ⟨j + 1, _, A6, c6, by omega, by go_num, HN.out⟩
        case measure => simp [intOf]; omega
      · obtain rfl : j = r := by omega
        have hkz : (j : Int) - j = 0 := by omega
        have oc0 := hO.c0
        have oc1 := hO.c1
        obtain ⟨⟨x0, x1⟩, f0, f1⟩ := blk2D hR
        have HF := Lib.hid (fun (u v : Value) => bent_fin (w := w) (c1 := c3) (h := hh) (u := u) (v := v) hO.P (by omega) hbq (by omega) (by omega) hS hG hlt (top' := top + 2000) (by omega))
        clear hO hR hPB hII hS hG hbq
        go_wp2
        exact bodyPost_ret (v := .agg #[.int .i64 hh, .slice A3 j c3]) (by simp [results, Tryd.results38, go_sem, *]) rfl (HF.out _ _)
  · have HF := Lib.hid (fun (u v : Value) => bent_fin (w := w) (c1 := c1) (h := hh) (u := u) (v := v) HP2.out (by omega) HBD.out (by omega) (by omega) HS2.out HG2.out hlt (top' := top + 2000) (by omega))
    have d0 : (v == 0) = false := beq_eq_false_iff_ne.2 (by omega)
    have d1 : (v == 1) = false := beq_eq_false_iff_ne.2 (by omega)
    have d2 : (v == 2) = false := beq_eq_false_iff_ne.2 (by omega)
    have d3 : (v == 3) = false := beq_eq_false_iff_ne.2 (by omega)
    have d4 : (v == 4) = false := beq_eq_false_iff_ne.2 (by omega)
    go_wp2
    exact bodyPost_ret (v := .agg #[.int .i64 hh, .slice (some ⟨ga, 0, none⟩) k c1]) (by simp [results, Tryd.results38, go_sem, *]) rfl (HF.out _ _)
end Go.Proofs.YtinkaglngblddaaDoor

namespace Go.Proofs.YtinkaglngblddaaDoor
set_option linter.unusedVariables false
set_option linter.unusedSimpArgs false
open Go.ChangeShapes Go.WideShapes Go.ChangeAt Go.RowKit Go.Joins Go.Deep

/-- A routine that a draw hands back. -/
def DrawnRt (w : World) (e : Ending) (w' : World) : Prop :=
  ∃ (A1 : Option Addr) (k c1 : Nat) (h : Int) (ps : List (List Int × Int)), e = .returned (.agg #[.int .i64 h, .slice A1 k c1]) ∧ Parts w' A1 k ps ∧ bdP ps ∧ k ≤ 9 ∧ (-10 ≤ h ∧ h ≤ 100) ∧ Ext w w'
set_option maxHeartbeats 1000000 in
theorem DrawRoutineText_any (A : Option Addr) (n c : Nat) (xs : List Int) (w : World) (hB : Byts w A n xs) :
    Calls Tryd.prog 16 #[.slice A n c] w (DrawnRt w) := by
  go_enter Tryd.func16, Tryd.ntmps16
  go_wp2_with fail
  (with_reducible refine (l00From_any A n c xs _ (hB.ext (by with_reducible (repeat (first | exact Ext.refl _ | apply Ext.drewN | apply Ext.drew | apply Ext.alloc | (refine Ext.set ?_ (by first | (simp; done) | (simp; omega) | omega) _) | (refine Ext.trans ?_ (by assumption))))))).mono ?_)
  rintro e w1 ⟨g, rfl, hs1, -⟩
  go_wp2_with fail
  (with_reducible refine (l19Bent_any _ _ g A n c xs 0 hs1 (by omega)).mono ?_)
  rintro e w2 ⟨A1, k, c1, hh, ps, rfl, ⟨lo, hi, hlo, hP⟩, hb, hk, hh1, hs2, hg2⟩
  have hw1 : w.heap.size < w1.heap.size := by have := hs1.ext.size; simp at this; omega
  have hR2 := blkX (heap_alloc_new w (.cells #[.int .i64 0, .slice none 0 0] 29)) hs2.ext
  have hx : Ext w w2 := (show Ext w (w.alloc (.cells #[.int .i64 0, .slice none 0 0] 29)) from (Ext.refl _).alloc _).trans hs2.ext
  have HF : Hid (∀ u v : Value, DrawnRt w (.returned (.agg #[.int .i64 hh, .slice A1 k c1])) ((w2.setCell ⟨w.heap.size, 0, none⟩ u).setCell ⟨w.heap.size, 1, none⟩ v)) := fun u v => ⟨A1, k, c1, hh, ps, rfl, ((hP.far (p := ⟨w.heap.size, 0, none⟩) (.inl (by show w.heap.size < lo; omega)) u).far (p := ⟨w.heap.size, 1, none⟩) (.inl (by show w.heap.size < lo; omega)) v).parts (by omega) hb, hb, hk, hh1, (hx.set (p := ⟨w.heap.size, 0, none⟩) (Nat.le_refl _) u).set (p := ⟨w.heap.size, 1, none⟩) (Nat.le_refl _) v⟩
  obtain ⟨⟨x0, x1⟩, f0, f1⟩ := blk2D hR2
  clear hP hb hs1 hs2 hg2 hx hR2
  go_wp2
  exact bodyPost_ret (v := .agg #[.int .i64 hh, .slice A1 k c1]) (by simp [results, Tryd.results16, go_sem, *]) rfl (HF.out _ _)
theorem thr_get {xs : List Int} (h : thr xs = true) {k : Nat} (hk : k < xs.length) : 0 ≤ xs[k]?.getD 0 ∧ xs[k]?.getD 0 ≤ 15 := (thr_iff.1 h).1 k hk
set_option maxHeartbeats 2000000 in
set_option maxRecDepth 100000 in
theorem l02TextT_any (A : Option Addr) (n c : Nat) (xs : List Int) (w : World) (hI : Ints w A n xs) (hv : thr xs = true) :
    Calls Tryd.prog 53 #[.slice A n c] w fun e w' => e = .returned (.string (ptx xs)) ∧ Qt w w' := by
  have HV := Lib.hid hv
  have hln := (thr_iff.1 hv).2
  rw [hI.len] at hln
  have HLN := Lib.hid hI.len
  clear hv
  go_enter Tryd.func53, Tryd.ntmps53
  go_wp2
  go_loopw [4, 5] (fun v i wr => ∃ (k : Nat) (s : ByteArray), k ≤ n ∧ i = .int .i64 k ∧ v = .string s ∧ Hid (s = ⟨(ptk xs k).toArray⟩) ∧ s.size = k ∧ Qt w wr) (fun _ i _ => n - (intOf i).toNat)
  case atStart => exact ⟨0, _, Nat.zero_le _, rfl, rfl, rfl, rfl, Qt.refl _⟩
  case round =>
    obtain ⟨k, s, hk, rfl, rfl, HS, hss, q, rfl⟩ := hrel
    by_cases hlt : k < n
    · obtain ⟨b, off, hA, hb, hcell⟩ := hI.at_ (by omega)
      subst hA
      have c1 := hcell k hlt
      have hbd := thr_get HV.out (k := k) (by rw [HLN.out]; exact hlt)
      obtain ⟨d, hd⟩ : ∃ d : Nat, xs[k]?.getD 0 = d := ⟨(xs[k]?.getD 0).toNat, by omega⟩
      rw [hd] at c1 hbd
      have hd16 : d < 16 := by omega
      have hdi : (d : Int) < 16 := by omega
      have hki : (k : Int) < n := by omega
      have h1 : (0 : Int) ≤ d := by omega
      have h2 : (d : Int) + 1 ≤ 16 := by omega
      obtain ⟨x8, hx8⟩ : ∃ x8 : UInt8, UInt8.ofNat (dgq d) = x8 := ⟨_, rfl⟩
      have hsl : ∀ wx : World, (Instr.slice 9 (.string ⟨#[48, 49, 50, 51, 52, 53, 54, 55, 56, 57, 97, 98, 99, 100, 101, 102]⟩) (some (.int .i64 (d : Int))) (some (.int .i64 ((d : Int) + 1))) none).run Tryd.prog wx = .ok (.string ⟨#[x8]⟩) wx := fun wx => by
        have h := run_slice_string (P := Tryd.prog) wx 9 ⟨#[48, 49, 50, 51, 52, 53, 54, 55, 56, 57, 97, 98, 99, 100, 101, 102]⟩ .i64 .i64 (d : Int) ((d : Int) + 1) Tryd.underlying9 h1 (by omega) h2
        rw [show ((d : Int) + 1).toNat = d + 1 by omega, show (d : Int).toNat = d by omega, digQ ⟨d, hd16⟩, hx8] at h
        exact h
      have HN : Hid (s ++ ⟨#[x8]⟩ = (⟨(ptk xs (k + 1)).toArray⟩ : ByteArray)) := by
        show _ = _
        rw [ptk_succ, hd, Int.toNat_natCast, hx8, HS.out]
        exact ByteArray.mk_append_mk (ptk xs k) [x8]
      have hsz3 : ¬ 9223372036854775807 < s.size + 1 := by omega
      have hsz4 : (s ++ ⟨#[x8]⟩ : ByteArray).size = k + 1 := by rw [ByteArray.size_append, hss]; rfl
      clear hcell hx8 hd
      go_wp2
      go_quiet (fail)
      go_wp2
      go_roundw
      case rel => exact ⟨k + 1, _, by omega, by go_num, rfl, HN.out, hsz4, (by first | exact ⟨_, rfl⟩ | exact ⟨_, World.drewN_drewN _ _ _⟩)⟩
      case measure => simp [intOf]; omega
    · obtain rfl : k = n := by omega
      have HR : Hid (ptx xs = s) := by show _ = _; unfold ptx; rw [HLN.out]; exact HS.out.symm
      go_wp2
      go_ret
      exact ⟨by rw [HR.out]; rfl, (by first | exact ⟨_, rfl⟩ | exact ⟨_, World.drewN_drewN _ _ _⟩)⟩
set_option maxHeartbeats 4000000 in
set_option maxRecDepth 100000 in
theorem l19TextT_any (g : Nat) (A : Option Addr) (n c : Nat) (ps : List (List Int × Int)) (h : Int) (w : World) (hg : g < w.heap.size) (a0 : w.cell? ⟨g, 0, none⟩ = some (.int .i64 h)) (a1 : w.cell? ⟨g, 1, none⟩ = some (.slice A n c)) (hP : Parts w A n ps) (hok : RouOk ps n) (hn : 1 ≤ n ∧ n ≤ 4) (hh : 8 ≤ h ∧ h ≤ 9) :
    Calls Tryd.prog 23 #[.pointer (some ⟨g, 0, none⟩)] w fun e w' => ∃ s : ByteArray, e = .returned (.string s) ∧ s.size ≤ 1000 ∧ Ext w w' := by
  have HLN := Lib.hid hP.len
  have HPT := Lib.hid hok.2
  have hs1 := dec_size (n := h) (by omega)
  obtain ⟨sh, hsh⟩ : ∃ s, dec h = s := ⟨_, rfl⟩
  rw [hsh] at hs1
  have HSH := Lib.hid hsh
  clear hsh
  have ch := fun W => (l01Dec_any h (by omega) W : Calls Tryd.prog 52 #[.int .i64 h] W _)
  rw [HSH.out] at ch
  have CH := Lib.hid ch
  clear ch
  have hss : ¬ 9223372036854775807 < sh.size + 1 := by omega
  go_enter Tryd.func23, Tryd.ntmps23
  go_wp2_with fail
  (with_reducible refine (CH.out _).mono ?_)
  rintro e w2 ⟨rfl, hx2⟩
  have b1 : w2.cell? ⟨g, 1, none⟩ = some (.slice A n c) := hx2.cell hg a1
  go_wp2
  go_loopw [3, 4] (fun v i wr => ∃ (k : Nat) (s : ByteArray), k ≤ n ∧ i = .int .i64 k ∧ v = .string s ∧ Hid (s = rtx h ps k) ∧ s.size ≤ 22 + 40 * k ∧ Ext w2 wr) (fun _ i _ => n - (intOf i).toNat)
  case atStart => exact ⟨0, _, Nat.zero_le _, rfl, rfl, (by show _ = _; unfold rtx; rw [HSH.out]), (by rw [ByteArray.size_append]; show sh.size + 1 ≤ _; omega), Ext.refl _⟩
  case round =>
    obtain ⟨k, s, hk, rfl, rfl, HS, hsz, hx0⟩ := hrel
    have hx : Ext w wr := hx2.trans hx0
    have r1 : wr.cell? ⟨g, 1, none⟩ = some (.slice A n c) := hx.cell hg a1
    have hgr : g < wr.heap.size := Nat.lt_of_lt_of_le hg hx.size
    by_cases hlt : k < n
    · obtain ⟨b, off, hA, hb, hcell⟩ := (hP.ext hx).at_ (by omega)
      subst hA
      obtain ⟨B1, m1, d1, c0, c1, I1⟩ := hcell k hlt
      have i1 : (k : Int) < n := by omega
      clear hcell
      obtain ⟨hvp, hxl5, htb⟩ := HPT.out k hlt
      obtain ⟨t, ht⟩ : ∃ t, tm ps k = t := ⟨_, rfl⟩
      obtain ⟨xs, hxs⟩ : ∃ xs, pt ps k = xs := ⟨_, rfl⟩
      rw [ht] at c1 htb
      rw [hxs] at I1 hvp hxl5
      have HVP := Lib.hid hvp
      clear hvp
      have hd := dec_size (n := t) (by omega)
      have hp := ptx_size xs
      have hpl := (thr_iff.1 HVP.out).2
      obtain ⟨sd, hsd⟩ : ∃ s, dec t = s := ⟨_, rfl⟩
      obtain ⟨sp, hsp⟩ : ∃ s, ptx xs = s := ⟨_, rfl⟩
      rw [hsd] at hd
      rw [hsp] at hp
      have cp := fun W hW => (l02TextT_any B1 m1 d1 xs W hW HVP.out : Calls Tryd.prog 53 #[.slice B1 m1 d1] W _)
      have cd := fun W => (l01Dec_any t (by omega) W : Calls Tryd.prog 52 #[.int .i64 t] W _)
      rw [hsp] at cp
      rw [hsd] at cd
      have CP := Lib.hid cp
      have CD := Lib.hid cd
      have HN : Hid (s ++ (((⟨#[32]⟩ : ByteArray) ++ sp ++ ⟨#[42]⟩) ++ sd) = rtx h ps (k + 1)) := by
        show _ = _
        rw [HS.out, ← hsp, ← hsd, ← ht, ← hxs]
        rfl
      have e1 : ¬ 9223372036854775807 < 1 + sp.size := by omega
      have e2 : ¬ 9223372036854775807 < 1 + sp.size + 1 := by omega
      have e3 : ¬ 9223372036854775807 < 1 + sp.size + 1 + sd.size := by omega
      have e4 : ¬ 9223372036854775807 < s.size + (1 + sp.size + 1 + sd.size) := by omega
      have e5 : (s ++ (((⟨#[32]⟩ : ByteArray) ++ sp ++ ⟨#[42]⟩) ++ sd)).size ≤ 22 + 40 * (k + 1) := by
        simp only [ByteArray.size_append]
        show s.size + (1 + sp.size + 1 + sd.size) ≤ _
        omega
      have E5 := Lib.hid e5
      clear cp cd hsd hsp ht hxs e5 hp hpl
      go_wp2
      go_region_held3 (fun wz => wz.cell? ⟨g, 1, none⟩ = some (.slice (some ⟨b, off, none⟩) n c) ∧ wz.cell? ⟨b, off + k * 2, none⟩ = some (.slice B1 m1 d1) ∧ wz.cell? ⟨b, off + k * 2 + 1, none⟩ = some (.int .i64 t)) (go_keep)
        (first | (go_at_call 53; (with_reducible refine (CP.out _ (I1.ext (by with_reducible (repeat (first | exact Ext.refl _ | apply Ext.drewN | apply Ext.drew | apply Ext.alloc | (refine Ext.set ?_ (by first | (simp; done) | (simp; omega) | omega) _) | (refine Ext.trans ?_ (by assumption))))))).mono ?_); rintro e w' ⟨rfl, q, rfl⟩) | (go_at_call 52; (with_reducible refine (CD.out _).mono ?_); rintro e w4 ⟨rfl, hx_w4⟩; have hz_w4 := hx_w4.size; (try simp at hz_w4); (have hq0_w4 : g < w4.heap.size := by omega); (have hc0_w4 : ∀ o, w4.cell? ⟨g, o, none⟩ = _ := fun o => hx_w4.cells.1 _ o (by first | (simp; done) | (simp; omega) | omega)); (have hq1_w4 : b < w4.heap.size := by omega); (have hc1_w4 : ∀ o, w4.cell? ⟨b, o, none⟩ = _ := fun o => hx_w4.cells.1 _ o (by first | (simp; done) | (simp; omega) | omega))))
      go_wp2
      go_roundw
      case rel => exact ⟨k + 1, _, by omega, by go_num, rfl, HN.out, E5.out, hx0.trans (by with_reducible (repeat (first | exact Ext.refl _ | apply Ext.drewN | apply Ext.drew | apply Ext.alloc | (refine Ext.set ?_ (by first | (simp; done) | (simp; omega) | omega) _) | (refine Ext.trans ?_ (by assumption)))))⟩
      case measure => simp [intOf]; omega
    · obtain rfl : k = n := by omega
      go_wp2
      go_ret
      exact ⟨s, rfl, by omega, hx⟩
theorem l19Draw_4 (w0 w : World) (g : Nat) (A : Option Addr) (n c : Nat) (xs : List Int) (top : Nat) (h : Srd w0 w g A n c xs top) (ht : top ≤ 800000000) :
    Calls Tryd.prog 40 #[.pointer (some ⟨g, 0, none⟩), .int .i64 4] w (DrawnRou w0 w g A n c xs (top + 1000) 4) := l19Draw_is 4 4 w0 w g A n c xs top h rfl ht (by omega)
set_option maxHeartbeats 1000000 in
theorem DrawReadRoutine_any (A : Option Addr) (n c : Nat) (xs : List Int) (w : World) (hB : Byts w A n xs) :
    Calls Tryd.prog 17 #[.slice A n c] w fun e w' => ∃ s : ByteArray, e = .returned (.string s) ∧ s.size ≤ 2000 ∧ Ext w w' := by
  go_enter Tryd.func17, Tryd.ntmps17
  go_wp2_with fail
  (with_reducible refine (l00From_any A n c xs _ (hB.ext (by with_reducible (repeat (first | exact Ext.refl _ | apply Ext.drewN | apply Ext.drew | apply Ext.alloc | (refine Ext.set ?_ (by first | (simp; done) | (simp; omega) | omega) _) | (refine Ext.trans ?_ (by assumption))))))).mono ?_)
  rintro e w1 ⟨g, rfl, hs1, -⟩
  go_wp2_with fail
  (with_reducible refine (l19Draw_4 _ _ g A n c xs 0 hs1 (by omega)).mono ?_)
  rintro e w2 ⟨A1, k, c1, h, ps, rfl, hP, hok, hk, hh, hs2, hg2⟩
  have hP2 := hP.parts (by omega) hok.bd
  have hp3 : Ext w2 (w2.alloc (.cells #[.int .i64 h, .slice A1 k c1] 29)) := (Ext.refl _).alloc _
  have HP3 := Lib.hid (hP2.ext hp3)
  have HOK := Lib.hid hok
  have HS3 := Lib.hid (hs2.after hp3)
  have hz2 : w2.heap.size < (w2.alloc (.cells #[.int .i64 h, .slice A1 k c1] 29)).heap.size := by simp
  have hO := heap_alloc_new w2 (.cells #[.int .i64 h, .slice A1 k c1] 29)
  obtain ⟨⟨x0, x1⟩, f0, f1⟩ := blk2D hO
  clear hP hok hP2 hs1 hs2 hg2 hp3
  go_wp2_with fail
  (with_reducible refine (l19TextT_any _ A1 k c1 ps h _ hz2 x0 x1 HP3.out HOK.out hk hh).mono ?_)
  rintro e w3 ⟨t, rfl, hts, hx3⟩
  have HS4 := Lib.hid (HS3.out.after hx3)
  clear hx3 x0 x1 f0 f1 hO hz2 HS3 HP3 HOK
  go_wp2_with fail
  (with_reducible refine (one_any 3 _ _ g A n c xs _ HS4.out (by omega)).mono ?_)
  rintro e w4 ⟨b, rfl, hs5, hg5⟩
  cases b
  · have hX := hs5.ext
    go_wp2
    go_ret
    exact ⟨t, rfl, by omega, hX⟩
  · go_wp2_with fail
    (with_reducible refine (l01Spoil_any t _ _ g A n c xs _ hs5 (by omega) hts).mono ?_)
    rintro e w5 ⟨s, rfl, hss, hs6, hg6⟩
    have hX := hs6.ext
    go_wp2
    go_ret
    exact ⟨s, rfl, by omega, hX⟩
end Go.Proofs.YtinkaglngblddaaDoor

namespace Go.Proofs.YtinkaglngblddaaDoor
set_option linter.unusedVariables false
set_option linter.unusedSimpArgs false
open Go.ChangeShapes Go.WideShapes Go.ChangeAt Go.RowKit Go.Joins Go.Deep

theorem PRow.first0 {w : World} {lo hi g n c : Nat} {ps : List (List Int × Int)} (h : PRow w lo hi (some ⟨g, 0, none⟩) n c ps) (hn : 0 < n) (hx : 0 < (pt ps 0).length) :
    ∃ b d : Nat, w.cell? ⟨g, 0, none⟩ = some (.slice (some ⟨b, 0, none⟩) (pt ps 0).length d) ∧ w.cell? ⟨g, 1, none⟩ = some (.int .i64 (tm ps 0)) ∧ w.frozen? ⟨g, 0, none⟩ = false ∧ w.frozen? ⟨g, 1, none⟩ = false ∧ (lo ≤ g ∧ g < hi) ∧ (lo ≤ b ∧ b < hi) ∧ w.cell? ⟨b, 0, none⟩ = some (.int .i64 ((pt ps 0)[0]?.getD 0)) ∧ w.frozen? ⟨b, 0, none⟩ = false ∧
      ∀ v : Int, PRow (w.setCell ⟨b, 0, none⟩ (.int .i64 v)) lo hi (some ⟨g, 0, none⟩) n c (ps.set 0 ((pt ps 0).set 0 v, tm ps 0)) := by
  have hl : 0 < ps.length := by rw [h.len]; exact hn
  obtain ⟨H, hF⟩ := h.rows
  obtain ⟨cs, hr, hc⟩ := hF.row
  have hgb := hr.row_bd g rfl
  obtain ⟨q0, q1, q2, q3⟩ := hF.cells (j := 0) hn
  rw [Nat.zero_mul] at q0 q1 q2 q3
  have hR := hF.rows 0 hn
  obtain ⟨b, hb⟩ := hR.form hx
  have hbb := hR.row_bd b (by rw [hb]; rfl)
  rw [hb] at q0
  have hR2 := hR
  rw [hb] at hR2
  obtain ⟨z0, z1⟩ := hR2.cellAt (p := 0) (by omega)
  refine ⟨b, _, q0, q1, q2, q3, hgb, hbb, z0, z1, fun v => ⟨by rw [List.length_set]; exact h.len, H, ?_⟩⟩
  refine (hF.rewrite (j := 0) hn (Z := (pt ps 0).set 0 v) (by simp) (w' := w.setCell ⟨b, 0, none⟩ (.int .i64 v)) (by rw [hb]; exact only_setCell (World.grownBy.refl w _) (p := ⟨b, 0, none⟩) rfl _) (by rw [hb]; exact hR2.store 0 v)).congr (fun i hi => ?_) (fun i hi => ?_)
  · rw [(pt_set hl i).1]
  · rw [(pt_set hl i).2]
    exact (upd_same _ _ _).symm
theorem pt_tail (ps : List (List Int × Int)) (i : Nat) : pt ps.tail i = pt ps (i + 1) ∧ tm ps.tail i = tm ps (i + 1) := by
  unfold pt tm
  rw [List.getElem?_tail]
  exact ⟨rfl, rfl⟩
theorem Parts.tail {w : World} {b n : Nat} {ps : List (List Int × Int)} (h : Parts w (some ⟨b, 0, none⟩) n ps) (hn : 0 < n) : Parts w (some ⟨b, 2, none⟩) (n - 1) ps.tail := by
  refine ⟨by rw [List.length_tail, h.len], by have := h.small; omega, fun i hi => ?_, fun h1 => ?_⟩
  · rw [(pt_tail ps i).2]; exact h.bds (i + 1) (by omega)
  · obtain ⟨b', off, e, hb, hc⟩ := h.at_ hn
    cases e
    refine ⟨b, 2, rfl, hb, fun i hi => ?_⟩
    obtain ⟨B, m, c, c0, c1, I⟩ := hc (i + 1) (by omega)
    rw [(pt_tail ps i).1, (pt_tail ps i).2]
    refine ⟨B, m, c, ?_, ?_, I⟩
    · rw [← c0]; congr 2; omega
    · rw [← c1]; congr 2; omega
theorem Parts.none {w : World} {A : Option Addr} : Parts w A 0 [] := ⟨rfl, by omega, fun i hi => absurd hi (Nat.not_lt_zero _), fun h => absurd h (Nat.lt_irrefl _)⟩
/-- Two routines that a draw hands back. -/
def DrawnTwo (w : World) (e : Ending) (w' : World) : Prop :=
  ∃ (A1 A2 : Option Addr) (k c1 k2 c2 : Nat) (h h2 : Int) (ps qs : List (List Int × Int)), e = .returned (.tuple #[.agg #[.int .i64 h, .slice A1 k c1], .agg #[.int .i64 h2, .slice A2 k2 c2]]) ∧ Parts w' A1 k ps ∧ Parts w' A2 k2 qs ∧ (k ≤ 9 ∧ k2 ≤ 9) ∧ Ext w w'
theorem two_fin {w W : World} {l1 h1 l2 h2 : Nat} {A1 A2 : Option Addr} {k c1 k2 c2 : Nat} {ps qs : List (List Int × Int)} (hP : PRow W l1 h1 A1 k c1 ps) (hQ : PRow W l2 h2 A2 k2 c2 qs) (e1 : w.heap.size + 1 < l1) (e2 : w.heap.size + 1 < l2) (hx : Ext w W) (u v x y : Value) :
    PRow ((((W.setCell ⟨w.heap.size, 0, none⟩ u).setCell ⟨w.heap.size, 1, none⟩ v).setCell ⟨w.heap.size + 1, 0, none⟩ x).setCell ⟨w.heap.size + 1, 1, none⟩ y) l1 h1 A1 k c1 ps ∧ PRow ((((W.setCell ⟨w.heap.size, 0, none⟩ u).setCell ⟨w.heap.size, 1, none⟩ v).setCell ⟨w.heap.size + 1, 0, none⟩ x).setCell ⟨w.heap.size + 1, 1, none⟩ y) l2 h2 A2 k2 c2 qs ∧ Ext w ((((W.setCell ⟨w.heap.size, 0, none⟩ u).setCell ⟨w.heap.size, 1, none⟩ v).setCell ⟨w.heap.size + 1, 0, none⟩ x).setCell ⟨w.heap.size + 1, 1, none⟩ y) :=
  ⟨((((hP.far (p := ⟨w.heap.size, 0, none⟩) (.inl (by show w.heap.size < l1; omega)) u).far (p := ⟨w.heap.size, 1, none⟩) (.inl (by show w.heap.size < l1; omega)) v).far (p := ⟨w.heap.size + 1, 0, none⟩) (.inl e1) x).far (p := ⟨w.heap.size + 1, 1, none⟩) (.inl e1) y),
   ((((hQ.far (p := ⟨w.heap.size, 0, none⟩) (.inl (by show w.heap.size < l2; omega)) u).far (p := ⟨w.heap.size, 1, none⟩) (.inl (by show w.heap.size < l2; omega)) v).far (p := ⟨w.heap.size + 1, 0, none⟩) (.inl e2) x).far (p := ⟨w.heap.size + 1, 1, none⟩) (.inl e2) y),
   (((hx.set (p := ⟨w.heap.size, 0, none⟩) (Nat.le_refl _) u).set (p := ⟨w.heap.size, 1, none⟩) (Nat.le_refl _) v).set (p := ⟨w.heap.size + 1, 0, none⟩) (Nat.le_succ _) x).set (p := ⟨w.heap.size + 1, 1, none⟩) (Nat.le_succ _) y⟩
theorem two_end {w W : World} {l1 h1 l2 h2 : Nat} {A1 A2 : Option Addr} {k c1 k2 c2 : Nat} {h hh : Int} {ps qs : List (List Int × Int)} (hP : PRow W l1 h1 A1 k c1 ps) (hQ : PRow W l2 h2 A2 k2 c2 qs) (e1 : w.heap.size + 1 < l1) (e2 : w.heap.size + 1 < l2) (hx : Ext w W) (b1 : bdP ps) (b2 : bdP qs) (hk : k ≤ 9 ∧ k2 ≤ 9) (u v x y : Value) :
    DrawnTwo w (.returned (.tuple #[.agg #[.int .i64 h, .slice A1 k c1], .agg #[.int .i64 hh, .slice A2 k2 c2]])) ((((W.setCell ⟨w.heap.size, 0, none⟩ u).setCell ⟨w.heap.size, 1, none⟩ v).setCell ⟨w.heap.size + 1, 0, none⟩ x).setCell ⟨w.heap.size + 1, 1, none⟩ y) := by
  obtain ⟨a, b, c⟩ := two_fin hP hQ e1 e2 hx u v x y
  exact ⟨A1, A2, k, c1, k2, c2, h, hh, ps, qs, rfl, a.parts (by omega) b1, b.parts (by omega) b2, hk, c⟩
theorem two_tail {w W : World} {l1 h1 l2 h2 : Nat} {A1 A3 : Option Addr} {k c1 k2 c2 c3 ga : Nat} {h hh : Int} {ps qs : List (List Int × Int)} (hP : PRow W l1 h1 A1 k c1 ps) (hQ : PRow W l2 h2 (some ⟨ga, 0, none⟩) k2 c2 qs) (e1 : w.heap.size + 1 < l1) (e2 : w.heap.size + 1 < l2) (hx : Ext w W) (b1 : bdP ps) (b2 : bdP qs) (hk : k ≤ 9 ∧ k2 ≤ 9) (h0 : 0 < k2) (hA : A3 = some ⟨ga, 2, none⟩ ∨ k2 = 1) (u v x y : Value) :
    DrawnTwo w (.returned (.tuple #[.agg #[.int .i64 h, .slice A1 k c1], .agg #[.int .i64 hh, .slice A3 (k2 - 1) c3]])) ((((W.setCell ⟨w.heap.size, 0, none⟩ u).setCell ⟨w.heap.size, 1, none⟩ v).setCell ⟨w.heap.size + 1, 0, none⟩ x).setCell ⟨w.heap.size + 1, 1, none⟩ y) := by
  obtain ⟨a, b, c⟩ := two_fin hP hQ e1 e2 hx u v x y
  have hT := (b.parts (by omega) b2).tail h0
  refine ⟨A1, A3, k, c1, k2 - 1, c3, h, hh, ps, qs.tail, rfl, a.parts (by omega) b1, ?_, by omega, c⟩
  rcases hA with rfl | rfl
  · exact hT
  · have : qs.tail = [] := List.eq_nil_of_length_eq_zero (by have := hT.len; simpa using this)
    rw [this]
    exact Parts.none
theorem DrawnTwo.drew {w W : World} {e : Ending} (h : DrawnTwo w e W) : DrawnTwo w e W.drew := by
  obtain ⟨A1, A2, k, c1, k2, c2, h1, h2, ps, qs, e1, hP, hQ, hk, hx⟩ := h
  have hd : Ext W W.drew := (Ext.refl _).drew
  exact ⟨A1, A2, k, c1, k2, c2, h1, h2, ps, qs, e1, hP.ext hd, hQ.ext hd, hk, hx.trans hd⟩
theorem l19Draw_3 (w0 w : World) (g : Nat) (A : Option Addr) (n c : Nat) (xs : List Int) (top : Nat) (h : Srd w0 w g A n c xs top) (ht : top ≤ 800000000) :
    Calls Tryd.prog 40 #[.pointer (some ⟨g, 0, none⟩), .int .i64 3] w (DrawnRou w0 w g A n c xs (top + 1000) 3) := l19Draw_is 3 3 w0 w g A n c xs top h rfl ht (by omega)
set_option maxHeartbeats 8000000 in
set_option maxRecDepth 100000 in
theorem DrawSameRoutine_any (A : Option Addr) (n c : Nat) (xs : List Int) (w : World) (hB : Byts w A n xs) :
    Calls Tryd.prog 18 #[.slice A n c] w (DrawnTwo w) := by
  go_enter Tryd.func18, Tryd.ntmps18
  go_wp2_with fail
  (with_reducible refine (l00From_any A n c xs _ (hB.ext (by with_reducible (repeat (first | exact Ext.refl _ | apply Ext.drewN | apply Ext.drew | apply Ext.alloc | (refine Ext.set ?_ (by first | (simp; done) | (simp; omega) | omega) _) | (refine Ext.trans ?_ (by assumption))))))).mono ?_)
  rintro e w1 ⟨g, rfl, hs1, hge⟩
  have hgw : w.heap.size + 1 < g := by simp at hge; omega
  clear hge
  have hz0 : w.heap.size + 1 + 1 ≤ w1.heap.size := by have := hs1.ext.size; simp at this; omega
  have hx0 : Ext w ((w.alloc (.cells #[.int .i64 0, .slice none 0 0] 29)).alloc (.cells #[.int .i64 0, .slice none 0 0] 29)) := ((Ext.refl _).alloc _).alloc _
  have hba : ((w.alloc (.cells #[.int .i64 0, .slice none 0 0] 29)).alloc (.cells #[.int .i64 0, .slice none 0 0] 29)).heap[w.heap.size]? = some (.cells #[.int .i64 0, .slice none 0 0] 29) := blkX (heap_alloc_new w _) ((Ext.refl _).alloc _)
  have hbb : ((w.alloc (.cells #[.int .i64 0, .slice none 0 0] 29)).alloc (.cells #[.int .i64 0, .slice none 0 0] 29)).heap[w.heap.size + 1]? = some (.cells #[.int .i64 0, .slice none 0 0] 29) := by
    have := heap_alloc_new (w.alloc (.cells #[.int .i64 0, .slice none 0 0] 29)) (.cells #[.int .i64 0, .slice none 0 0] 29)
    simpa using this
  go_wp2_with fail
  (with_reducible refine (l19Draw_3 _ _ g A n c xs 0 hs1 (by omega)).mono ?_)
  rintro e w2 ⟨A1, k, c1, hh, ps, rfl, hP1, hok, hk, hh9, hs2, hg2⟩
  have hlt2 := hs2.lt
  have hz1 := hg2.size
  have hgl := hs1.lt
  have hbd := hok.bd
  have hp2 : Ext w2 (w2.alloc (.cells #[.int .i64 hh, .slice A1 k c1] 29)) := (Ext.refl _).alloc _
  have hO1 := heap_alloc_new w2 (.cells #[.int .i64 hh, .slice A1 k c1] 29)
  obtain ⟨⟨y0, y1⟩, -, -⟩ := blk2D hO1
  have hP2 := (hP1.parts (by omega) hbd).ext hp2
  have HXX := Lib.hid (hx0.trans hs2.ext)
  have HS2 := Lib.hid hs2
  have hl5 : ∀ i, i < k → (pt ps i).length ≤ 1000 := fun i hi => by have := (hok.2 i hi).2.1; omega
  have HL5 := Lib.hid hl5
  obtain ⟨o1, o2, o3⟩ := hok.2 0 (by omega)
  have hthr := thr_iff.1 o1
  have hty := hthr.1 0 (by omega)
  have htl := hthr.2
  have hpl := hok.1
  have HYB := Lib.hid (thr_bd o1)
  clear hl5 hthr o1
  have HBD := Lib.hid hbd
  have HP1 := Lib.hid hP1
  have HO1 := Lib.hid hO1
  have HA := Lib.hid (blkX hba hs2.ext)
  have HB := Lib.hid (blkX hbb hs2.ext)
  clear hs1 hs2 hok hbd hP1 hg2 hO1 hba hbb hx0
  go_wp2_with fail
  (with_reducible refine (l19Copy_any _ A1 k c1 ps hh _ y0 y1 hP2 (by omega) HL5.out).mono ?_)
  rintro e w3 ⟨A2, c2, rfl, hP3, hx3⟩
  have hz3 := hx3.size
  simp at hz3
  have hE3 := hp2.trans hx3
  have hP3 : PRow w3 (w2.heap.size + 1) w3.heap.size A2 k c2 ps := by simpa using hP3
  have hp3 : Ext w3 (w3.alloc (.cells #[.int .i64 hh, .slice A2 k c2] 29)) := (Ext.refl _).alloc _
  have hO3 := heap_alloc_new w3 (.cells #[.int .i64 hh, .slice A2 k c2] 29)
  have HS4 := Lib.hid ((HS2.out.after hE3).after hp3)
  have HXX4 := Lib.hid ((HXX.out.trans hE3).trans hp3)
  have HP34 := Lib.hid (hP3.ext hp3)
  have HP14 := Lib.hid ((HP1.out.ext hE3).ext hp3)
  have HO14 := Lib.hid (blkX (blkX HO1.out hx3) hp3)
  have HO34 := Lib.hid hO3
  have HA4 := Lib.hid (blkX (blkX HA.out hE3) hp3)
  have HB4 := Lib.hid (blkX (blkX HB.out hE3) hp3)
  clear HA HB HO1 HP1 HS2 HXX hP2 hP3 hO3 hx3 y0 y1 hE3 hp2 hp3
  go_wp2_with fail
  (with_reducible refine (pick_any 4 _ _ g A n c xs _ HS4.out (by omega)).mono ?_)
  rintro e w4 ⟨v, rfl, hv, hs5, hg5⟩
  have hz5 := hg5.size
  simp at hz5
  have hvv : 0 ≤ v ∧ v ≤ 3 := by omega
  have hX5 : Ext w w4 := (show Ext w _ from ((Ext.refl _).alloc _).alloc _).trans hs5.ext
  have hA5 := blkG hg5 HA4.out (by intro e; cases e; omega)
  have hB5 := blkG hg5 HB4.out (by intro e; cases e; omega)
  have hO15 := blkG hg5 HO14.out (by intro e; cases e; omega)
  have hO35 := blkG hg5 HO34.out (by intro e; cases e; omega)
  have hP15 := HP14.out.drawn hg5 (by omega)
  have hP35 := HP34.out.drawn hg5 (by omega)
  obtain ⟨ga, rfl⟩ : ∃ ga, A2 = some ⟨ga, 0, none⟩ := by
    obtain ⟨H, hF⟩ := hP35.rows
    obtain ⟨ga, e, _⟩ := hF.form (by omega)
    exact ⟨ga, e⟩
  have hcap : k ≤ c2 := by
    obtain ⟨H, hF⟩ := hP35.rows
    obtain ⟨cs, hr, _⟩ := hF.row
    exact ownr_cap hr.own
  obtain ⟨b, d, q0, q1, q2, q3, hga, hb, z0, z1, hset⟩ := hP35.first0 (by omega) (by omega)
  have HNUM := Lib.hid (fun t : Int => hP35.number0 (by omega) t)
  have HSET := Lib.hid hset
  have HP15 := Lib.hid hP15
  have HP35 := Lib.hid hP35
  have HX5 := Lib.hid hX5
  have hn1 : ¬ w.heap.size = w2.heap.size := by omega
  have hn2 : ¬ w.heap.size = w3.heap.size := by omega
  have hn3 : ¬ w.heap.size + 1 = w2.heap.size := by omega
  have hn4 : ¬ w.heap.size + 1 = w3.heap.size := by omega
  have hn5 : ¬ w2.heap.size = w3.heap.size := by omega
  have hn6 : ¬ w2.heap.size = w.heap.size := by omega
  have hn7 : ¬ w3.heap.size = w.heap.size := by omega
  have hn8 : ¬ w2.heap.size = w.heap.size + 1 := by omega
  have hn9 : ¬ w3.heap.size = w.heap.size + 1 := by omega
  have hk0 : (0 : Int) < k := by omega
  have hk0n : 0 < k := by omega
  obtain ⟨t0, ht0⟩ : ∃ t, tm ps 0 = t := ⟨_, rfl⟩
  obtain ⟨m, hm⟩ : ∃ m, (pt ps 0).length = m := ⟨_, rfl⟩
  obtain ⟨y, hy⟩ : ∃ y, (pt ps 0)[0]?.getD 0 = y := ⟨_, rfl⟩
  rw [ht0] at q1 o3
  rw [hm] at q0 o2 htl
  rw [hy] at z0 hty
  have hm0 : (0 : Int) < m := by omega
  have hm0n : 0 < m := by omega
  have ht1 : IntKind.i64.wrap (t0 + 1) = t0 + 1 := IntWalk.i64_in _ (by omega)
  have hy1 : IntKind.i64.wrap (y + 1) = y + 1 := IntWalk.i64_in _ (by omega)
  have HM := Lib.hid hm
  have HT0 := Lib.hid ht0
  clear hm ht0 hy hP15 hP35 hX5 hset HP14 HP34 HA4 HB4 HO14 HO34 HS4 hs5 hg5 HL5
  have hvc : v = 0 ∨ v = 1 ∨ v = 2 ∨ v = 3 := by omega
  rcases hvc with rfl | rfl | rfl | rfl
  · -- one more time
    have HF := Lib.hid (fun u v x y => two_end (w := w) (h := hh) (hh := hh) (HP15.out.far (p := ⟨ga, 1, none⟩) (.inr (by show w2.heap.size ≤ ga; omega)) (.int .i64 (t0 + 1))) (HNUM.out (t0 + 1)) (by omega) (by omega) (HX5.out.set (p := ⟨ga, 1, none⟩) (by show w.heap.size ≤ ga; omega) (.int .i64 (t0 + 1))) HBD.out (bdP_set HBD.out (by rw [HM.out]; omega) (fun y hy => by have := HYB.out y hy; omega) (by show _ ≤ t0 + 1 ∧ t0 + 1 ≤ _; omega) (by omega)) (by omega) u v x y)
    obtain ⟨⟨j0, j1⟩, -, -⟩ := blk2D hO35
    go_upto_region 11 with fail
    obtain ⟨⟨x0, x1⟩, f0, f1⟩ := blk2D (blkS hA5 (p := ⟨ga, 1, none⟩) (by show w.heap.size ≠ ga; omega) (.int .i64 (t0 + 1)))
    obtain ⟨⟨y0, y1⟩, f2, f3⟩ := blk2D (blkS hB5 (p := ⟨ga, 1, none⟩) (by show w.heap.size + 1 ≠ ga; omega) (.int .i64 (t0 + 1)))
    obtain ⟨⟨u0, u1⟩, -, -⟩ := blk2D (blkS hO15 (p := ⟨ga, 1, none⟩) (by show w2.heap.size ≠ ga; omega) (.int .i64 (t0 + 1)))
    obtain ⟨⟨v0, v1⟩, -, -⟩ := blk2D (blkS hO35 (p := ⟨ga, 1, none⟩) (by show w3.heap.size ≠ ga; omega) (.int .i64 (t0 + 1)))
    clear q0 q1 q2 q3 z0 z1 hA5 hB5 hO15 hO35 j0 j1
    go_region
    all_goals (go_wp2; exact bodyPost_ret (v := .tuple #[.agg #[.int .i64 hh, .slice A1 k c1], .agg #[.int .i64 hh, .slice (some ⟨ga, 0, none⟩) k c2]]) (by simp [results, Tryd.results18, go_sem, *]) rfl (DrawnTwo.drew (HF.out _ _ _ _)))
  · -- one throw more
    have HF := Lib.hid (fun u v x z => two_end (w := w) (h := hh) (hh := hh) (HP15.out.far (p := ⟨b, 0, none⟩) (.inr (by show w2.heap.size ≤ b; omega)) (.int .i64 (y + 1))) (HSET.out (y + 1)) (by omega) (by omega) (HX5.out.set (p := ⟨b, 0, none⟩) (by show w.heap.size ≤ b; omega) (.int .i64 (y + 1))) HBD.out (bdP_set HBD.out (by rw [List.length_set, HM.out]; omega) (fun z hz => by rcases List.mem_or_eq_of_mem_set hz with h | h; (have := HYB.out z h; omega); omega) (by show _ ≤ tm ps 0 ∧ tm ps 0 ≤ _; rw [HT0.out]; omega) (by omega)) (by omega) u v x z)
    obtain ⟨⟨j0, j1⟩, -, -⟩ := blk2D hO35
    go_upto_region 11 with fail
    obtain ⟨⟨x0, x1⟩, f0, f1⟩ := blk2D (blkS hA5 (p := ⟨b, 0, none⟩) (by show w.heap.size ≠ b; omega) (.int .i64 (y + 1)))
    obtain ⟨⟨y0, y1⟩, f2, f3⟩ := blk2D (blkS hB5 (p := ⟨b, 0, none⟩) (by show w.heap.size + 1 ≠ b; omega) (.int .i64 (y + 1)))
    obtain ⟨⟨u0, u1⟩, -, -⟩ := blk2D (blkS hO15 (p := ⟨b, 0, none⟩) (by show w2.heap.size ≠ b; omega) (.int .i64 (y + 1)))
    obtain ⟨⟨v0, v1⟩, -, -⟩ := blk2D (blkS hO35 (p := ⟨b, 0, none⟩) (by show w3.heap.size ≠ b; omega) (.int .i64 (y + 1)))
    clear q0 q1 q2 q3 z0 z1 hA5 hB5 hO15 hO35 j0 j1
    go_region
    all_goals (go_wp2; exact bodyPost_ret (v := .tuple #[.agg #[.int .i64 hh, .slice A1 k c1], .agg #[.int .i64 hh, .slice (some ⟨ga, 0, none⟩) k c2]]) (by simp [results, Tryd.results18, go_sem, *]) rfl (DrawnTwo.drew (HF.out _ _ _ _)))
  · -- the first part left out
    have h1k : (1 : Int) ≤ k := by omega
    obtain ⟨⟨j0, j2⟩, j1⟩ := blk2D hO35
    go_upto_region 11 with fail
    obtain ⟨A3, hA3⟩ : ∃ A3 : Option Addr, (if c2 = 1 then some (⟨ga, 0, none⟩ : Addr) else some ⟨ga, 2, none⟩) = A3 := ⟨_, rfl⟩
    rw [hA3]
    have hA4 : A3 = some ⟨ga, 2, none⟩ ∨ k = 1 := by
      by_cases hc : c2 = 1
      · exact .inr (by omega)
      · rw [if_neg hc] at hA3
        exact .inl hA3.symm
    clear hA3
    have HF := Lib.hid (fun u v x y => two_tail (w := w) (h := hh) (hh := hh) (c3 := c2 - 1) (HP15.out.far (p := ⟨w3.heap.size, 1, none⟩) (.inr (by show w2.heap.size ≤ w3.heap.size; omega)) (.slice A3 (k - 1) (c2 - 1))) (HP35.out.far (p := ⟨w3.heap.size, 1, none⟩) (.inr (Nat.le_refl _)) (.slice A3 (k - 1) (c2 - 1))) (by omega) (by omega) (HX5.out.set (p := ⟨w3.heap.size, 1, none⟩) (by show w.heap.size ≤ w3.heap.size; omega) (.slice A3 (k - 1) (c2 - 1))) HBD.out HBD.out (by omega) hk0n hA4 u v x y)
    obtain ⟨⟨x0, x1⟩, f0, f1⟩ := blk2D (blkS hA5 (p := ⟨w3.heap.size, 1, none⟩) (by show w.heap.size ≠ w3.heap.size; omega) (.slice A3 (k - 1) (c2 - 1)))
    obtain ⟨⟨y0, y1⟩, f2, f3⟩ := blk2D (blkS hB5 (p := ⟨w3.heap.size, 1, none⟩) (by show w.heap.size + 1 ≠ w3.heap.size; omega) (.slice A3 (k - 1) (c2 - 1)))
    obtain ⟨⟨u0, u1⟩, -, -⟩ := blk2D (blkS hO15 (p := ⟨w3.heap.size, 1, none⟩) (by show w2.heap.size ≠ w3.heap.size; omega) (.slice A3 (k - 1) (c2 - 1)))
    have v0 : (w4.setCell ⟨w3.heap.size, 1, none⟩ (.slice A3 (k - 1) (c2 - 1))).cell? ⟨w3.heap.size, 0, none⟩ = some (.int .i64 hh) := (World.cell?_setCell_other _ _ _ _ (fun e => by cases e)).trans j0
    have v1 : (w4.setCell ⟨w3.heap.size, 1, none⟩ (.slice A3 (k - 1) (c2 - 1))).cell? ⟨w3.heap.size, 1, none⟩ = some (.slice A3 (k - 1) (c2 - 1)) := World.cell?_setCell_same _ _ _ j2
    clear q0 q1 q2 q3 z0 z1 hA5 hB5 hO15 hO35 j0 j2 j1
    go_region
    all_goals (go_wp2; exact bodyPost_ret (v := .tuple #[.agg #[.int .i64 hh, .slice A1 k c1], .agg #[.int .i64 hh, .slice A3 (k - 1) (c2 - 1)]]) (by simp [results, Tryd.results18, go_sem, *]) rfl (DrawnTwo.drew (HF.out _ _ _ _)))
  · -- the same
    have HF := Lib.hid (fun u v x z => two_end (w := w) (h := hh) (hh := hh) HP15.out HP35.out (by omega) (by omega) HX5.out HBD.out HBD.out (by omega) u v x z)
    obtain ⟨⟨x0, x1⟩, f0, f1⟩ := blk2D hA5
    obtain ⟨⟨y0, y1⟩, f2, f3⟩ := blk2D hB5
    obtain ⟨⟨u0, u1⟩, -, -⟩ := blk2D hO15
    obtain ⟨⟨v0, v1⟩, -, -⟩ := blk2D hO35
    clear q0 q1 q2 q3 z0 z1 hA5 hB5 hO15 hO35
    go_upto_region 11 with fail
    go_region
    all_goals (go_wp2; exact bodyPost_ret (v := .tuple #[.agg #[.int .i64 hh, .slice A1 k c1], .agg #[.int .i64 hh, .slice (some ⟨ga, 0, none⟩) k c2]]) (by simp [results, Tryd.results18, go_sem, *]) rfl (DrawnTwo.drew (HF.out _ _ _ _)))
end Go.Proofs.YtinkaglngblddaaDoor
