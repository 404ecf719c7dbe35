/- Routines out of texts: the plain laws. No program is walked. -/
import Derived.Test.YtinkaglngblddaaDoorNmb
import Derived.Test.YtinkaglngblddaaDoorRpt
import Derived.Test.YtinkaglngblddaaDoorRtx
namespace Go.Proofs.YtinkaglngblddaaDoor
set_option linter.unusedVariables false
set_option linter.unusedSimpArgs false
open Go.RowKit Go.Joins

/-- A part's word. -/
def wrd (u : ByteArray) (xs : List Int) (n : Int) : Prop := ∃ a b, Cutd 42 u a b true ∧ xs = hxs a ∧ vpat xs = true ∧ numOk b ∧ n = numV b
/-- The words of parts. -/
def wrds (ws : List ByteArray) (ps : List (List Int × Int)) (k : Nat) : Prop := ps.length = k ∧ k ≤ ws.length ∧ ∀ i, i < k → wrd (gs ws i) (pt ps i) (tm ps i)
/-- The head's word. -/
def hed (u : ByteArray) (h : Int) : Prop := ∃ a, Cutd 58 u a ⟨#[]⟩ true ∧ numOk a ∧ h = numV a
/-- A routine's text. -/
def rdo (s : ByteArray) (h : Int) (ps : List (List Int × Int)) : Prop := ∃ w0 ws, splB 32 s = w0 :: ws ∧ hed w0 h ∧ wrds ws ps ws.length ∧ vrt h ps
/-- What is read from a text. -/
def Rdo (s : ByteArray) (h : Int) (ps : List (List Int × Int)) (r : Bool) : Prop := (r = true ∧ rdo s h ps) ∨ (r = false ∧ h = 0 ∧ ps = [] ∧ ∀ h ps, ¬ rdo s h ps)

theorem cut_unique {c : UInt8} {s a b a' b' : ByteArray} (h : Cutd c s a b true) (h' : Cutd c s a' b' true) : a = a' ∧ b = b' := by
  rcases h with ⟨_, k, hk, hn, rfl, rfl⟩ | ⟨h, _⟩
  · rcases h' with ⟨_, k', hk', hn', rfl, rfl⟩ | ⟨h, _⟩
    · have : k = k' := by
        rcases Nat.lt_trichotomy k k' with h1 | h1 | h1
        · exact absurd hk (hn' k (Nat.zero_le _) h1)
        · exact h1
        · exact absurd hk' (hn k' (Nat.zero_le _) h1)
      subst this
      exact ⟨rfl, rfl⟩
    · cases h
  · cases h
theorem cut_true {c : UInt8} {s a b : ByteArray} (h : Cutd c s a b true) : ∃ k, s.data[k]? = some c ∧ noB s c 0 k ∧ a = s.extract 0 k ∧ b = s.extract (k + 1) s.size := by
  rcases h with ⟨_, h⟩ | ⟨h, _⟩
  · exact h
  · cases h
/-- A text out of its two halves. -/
theorem cut_join {c : UInt8} {s a b : ByteArray} (h : Cutd c s a b true) : s = a ++ ⟨#[c]⟩ ++ b := by
  obtain ⟨k, hk, _, rfl, rfl⟩ := cut_true h
  obtain ⟨hlt, hc⟩ := Array.getElem?_eq_some_iff.1 hk
  apply ByteArray.ext
  apply Array.ext'
  simp only [ByteArray.data_append, Array.toList_append, ByteArray.data_extract, Array.toList_extract, List.extract]
  have h1 := List.take_append_drop k s.data.toList
  rw [List.drop_eq_getElem_cons (by simpa using hlt)] at h1
  have h2 : s.data.toList[k]'(by simpa using hlt) = c := by simpa using hc
  rw [h2] at h1
  have h3 : (s.data.toList.drop (k + 1)).take (s.size - (k + 1)) = s.data.toList.drop (k + 1) := List.take_of_length_le (by simp)
  rw [h3, Nat.sub_zero, List.drop_zero, List.append_assoc]
  exact h1.symm
theorem wrd_unique {u : ByteArray} {xs ys : List Int} {m n : Int} (h : wrd u xs m) (h' : wrd u ys n) : xs = ys ∧ m = n := by
  obtain ⟨a, b, hc, rfl, _, _, rfl⟩ := h
  obtain ⟨a', b', hc', rfl, _, _, rfl⟩ := h'
  obtain ⟨rfl, rfl⟩ := cut_unique hc hc'
  exact ⟨rfl, rfl⟩
theorem dgt_hxv {b : UInt8} (h : 0 ≤ hxv b.toNat) : UInt8.ofNat (dgq (hxv b.toNat).toNat) = b := by
  have hb := b.toNat_lt
  unfold hxv at h ⊢
  unfold dgq
  apply UInt8.toNat_inj.1
  split
  · rw [if_pos (by omega)]; simp; omega
  · rename_i h1
    rw [if_neg h1] at h
    split
    · rw [if_neg (by omega)]; simp; omega
    · rename_i h2; rw [if_neg h2] at h; omega
/-- A pattern's text is the text that it was read from. -/
theorem ptx_hxs {a : ByteArray} (h : vpat (hxs a) = true) : ptx (hxs a) = a := by
  apply ByteArray.ext
  apply Array.ext'
  show (ptk (hxs a) (hxs a).length).toArray.toList = _
  rw [List.toList_toArray]
  apply List.ext_getElem
  · rw [ptk_len, hxs_len]; simp
  · intro i h1 h2
    rw [ptk_len] at h1
    have h3 := vpat_get h (k := i) h1
    have h4 : i < a.data.toList.length := by rw [hxs_len] at h1; simpa using h1
    have e : (hxs a)[i]?.getD 0 = hxv (a.data.toList[i]).toNat := by
      unfold hxs
      rw [List.getElem?_map, List.getElem?_eq_getElem h4]
      rfl
    rw [e] at h3
    simp only [ptk, List.getElem_map, List.getElem_range, e]
    exact dgt_hxv h3.1
/-- A joined text. -/
def jn (ws : List ByteArray) : Nat → ByteArray
  | 0 => gs ws 0
  | k + 1 => jn ws k ++ ((⟨#[32]⟩ : ByteArray) ++ gs ws (k + 1))
theorem spl_join (c : UInt8) : ∀ l : List UInt8, ((spl c l).headD []) ++ ((spl c l).tail.flatMap fun u => c :: u) = l
  | [] => rfl
  | x :: xs => by
    have ih := spl_join c xs
    have hl := spl_len c xs
    unfold spl
    split
    · rename_i h
      subst h
      simp only [List.headD_cons, List.tail_cons, List.nil_append]
      cases hq : spl x xs with
      | nil => rw [hq] at hl; simp at hl
      | cons u us =>
        rw [hq] at ih
        simp only [List.headD_cons, List.tail_cons] at ih
        simp [ih]
    · simp only [List.headD_cons, List.tail_cons, List.cons_append, ih]
theorem jn_list (w0 : ByteArray) (ws : List ByteArray) : ∀ k, k ≤ ws.length → (jn (w0 :: ws) k).data.toList = w0.data.toList ++ ((ws.take k).flatMap fun u => 32 :: u.data.toList)
  | 0, _ => by simp [jn, gs]
  | k + 1, h => by
    have ih := jn_list w0 ws k (by omega)
    have e : gs (w0 :: ws) (k + 1) = ws[k]'(by omega) := by
      unfold gs
      rw [List.getElem?_cons_succ, List.getElem?_eq_getElem (by omega)]
      rfl
    rw [jn, ByteArray.data_append, Array.toList_append, ih, e, List.take_succ_eq_append_getElem (by omega), List.flatMap_append, ByteArray.data_append, Array.toList_append]
    simp only [List.flatMap_cons, List.flatMap_nil, List.append_nil, List.append_assoc, List.cons_append, List.nil_append]
theorem splB_join {s w0 : ByteArray} {ws : List ByteArray} (h : splB 32 s = w0 :: ws) : jn (w0 :: ws) ws.length = s := by
  apply ByteArray.ext
  apply Array.ext'
  rw [jn_list w0 ws _ (Nat.le_refl _), List.take_length]
  have hj := spl_join 32 s.data.toList
  unfold splB at h
  cases hq : spl 32 s.data.toList with
  | nil => rw [hq] at h; cases h
  | cons u us =>
    rw [hq] at h hj
    simp only [List.map_cons, List.cons.injEq] at h
    obtain ⟨rfl, rfl⟩ := h
    simp only [List.headD_cons, List.tail_cons] at hj
    rw [← hj]
    simp [List.flatMap_map]
/-- The text of what is read is what it was read from. -/
theorem rtx_back {w0 : ByteArray} {ws : List ByteArray} {h : Int} {ps : List (List Int × Int)} (hh : hed w0 h) (hw : wrds ws ps ws.length) : ∀ k, k ≤ ws.length → rtx h ps k = jn (w0 :: ws) k
  | 0, _ => by
    obtain ⟨a, hc, hn, rfl⟩ := hh
    have := cut_join hc
    rw [rtx, hn.2.2, jn]
    show _ = w0
    rw [this]
    apply ByteArray.ext
    simp [ByteArray.data_append]
  | k + 1, hk => by
    have ih := rtx_back hh hw k (by omega)
    obtain ⟨a, b, hc, h1, h2, h3, h4⟩ := hw.2.2 k (by omega)
    have hj := cut_join hc
    rw [rtx, ih, jn, h4, h3.2.2, h1, ptx_hxs (by rw [← h1]; exact h2)]
    have e : gs (w0 :: ws) (k + 1) = gs ws k := rfl
    rw [e, hj]
    apply ByteArray.ext
    simp [ByteArray.data_append]
end Go.Proofs.YtinkaglngblddaaDoor
