/- The parts of a text between bytes: plain laws, and contracts of the program's cut and parts and of the reference's l01Split. No condition but the stated bounds. -/
import Derived.Test.YtinkaglngblddaaDoorStr
namespace Go.Proofs.YtinkaglngblddaaDoor
set_option linter.unusedVariables false
set_option linter.unusedSimpArgs false
open Go.RowKit Go.Joins

/-- The parts of a list between the places of c. -/
def spl (c : UInt8) : List UInt8 → List (List UInt8)
  | [] => [[]]
  | x :: xs => if x = c then [] :: spl c xs else (x :: (spl c xs).headD []) :: (spl c xs).tail
theorem spl_none (c : UInt8) : ∀ l : List UInt8, (∀ x ∈ l, x ≠ c) → spl c l = [l]
  | [], _ => rfl
  | x :: xs, h => by
    have h1 := spl_none c xs (fun y hy => h y (by simp [hy]))
    unfold spl
    rw [if_neg (h x (by simp)), h1]
    rfl
theorem spl_at (c : UInt8) (b : List UInt8) : ∀ l : List UInt8, (∀ x ∈ l, x ≠ c) → spl c (l ++ c :: b) = l :: spl c b
  | [], _ => by
    rw [List.nil_append, spl, if_pos rfl]
  | x :: xs, h => by
    have h1 := spl_at c b xs (fun y hy => h y (by simp [hy]))
    rw [List.cons_append, spl, if_neg (h x (by simp)), h1]
    rfl
theorem spl_len (c : UInt8) : ∀ l : List UInt8, 1 ≤ (spl c l).length ∧ (spl c l).length ≤ l.length + 1
  | [] => by simp [spl]
  | x :: xs => by
    have := spl_len c xs
    unfold spl
    split
    · simp; omega
    · simp; omega
/-- A text without the byte c between i and k. -/
def noB (s : ByteArray) (c : UInt8) (i k : Nat) : Prop := ∀ j, i ≤ j → j < k → s.data[j]? ≠ some c
/-- A text's parts. -/
def splB (c : UInt8) (s : ByteArray) : List ByteArray := (spl c s.data.toList).map fun l => ⟨l.toArray⟩
theorem splB_len (c : UInt8) (s : ByteArray) : 1 ≤ (splB c s).length ∧ (splB c s).length ≤ s.size + 1 := by
  have := spl_len c s.data.toList
  simpa [splB] using this
theorem ba_eta (s : ByteArray) : (⟨s.data.toList.toArray⟩ : ByteArray) = s := by simp
theorem ext_list (s : ByteArray) (i k : Nat) : (s.extract i k).data.toList = (s.data.toList.drop i).take (k - i) := by
  simp [ByteArray.data_extract, Array.toList_extract, List.extract]
theorem splB_none {c : UInt8} {s : ByteArray} (h : noB s c 0 s.size) : splB c s = [s] := by
  unfold splB
  rw [spl_none]
  · simp
  · intro x hx e
    subst e
    obtain ⟨j, hj, he⟩ := List.mem_iff_getElem.1 hx
    refine h j (Nat.zero_le _) (by simpa using hj) ?_
    rw [← he]
    simp at hj
    simp [hj]
theorem noB_ext {s : ByteArray} {c : UInt8} {i k n : Nat} (h : noB s c i k) (hk : k ≤ n) : noB (s.extract i n) c 0 (k - i) := by
  intro j _ hj he
  rw [ByteArray.data_extract, Array.getElem?_extract] at he
  split at he
  · exact h (i + j) (by omega) (by omega) he
  · cases he
theorem splB_at {c : UInt8} {s : ByteArray} {k : Nat} (hk : s.data[k]? = some c) (h : noB s c 0 k) : splB c s = s.extract 0 k :: splB c (s.extract (k + 1) s.size) := by
  have hlt : k < s.data.size := (Array.getElem?_eq_some_iff.1 hk).1
  have e : s.data.toList = (s.data.toList.take k) ++ c :: s.data.toList.drop (k + 1) := by
    have h1 := List.take_append_drop k s.data.toList
    rw [List.drop_eq_getElem_cons (by simpa using hlt)] at h1
    have h2 : s.data.toList[k]'(by simpa using hlt) = c := by
      have := (Array.getElem?_eq_some_iff.1 hk).2
      simpa using this
    rw [h2] at h1
    exact h1.symm
  unfold splB
  rw [e, spl_at]
  · rw [List.map_cons, ext_list]
    congr 1
    · apply ByteArray.ext
      apply Array.ext'
      simp [ByteArray.data_extract, Array.toList_extract, List.extract]
    · congr 2
      rw [List.take_of_length_le (by simp)]
  · intro x hx e'
    subst e'
    obtain ⟨j, hj, he⟩ := List.mem_iff_getElem.1 hx
    have hj' : j < k ∧ j < s.data.size := by
      have h1 : j < min k s.size := by simpa using hj
      have h2 : s.data.size = s.size := rfl
      omega
    refine h j (Nat.zero_le _) hj'.1 ?_
    rw [← he]
    simp [hj'.2]
theorem splB_from {c : UInt8} {s : ByteArray} {f k : Nat} (hk : s.data[k]? = some c) (hf : f ≤ k) (h : noB s c f k) : splB c (s.extract f s.size) = s.extract f k :: splB c (s.extract (k + 1) s.size) := by
  have hlt : k < s.data.size := (Array.getElem?_eq_some_iff.1 hk).1
  have hlt' : k < s.size := hlt
  have h1 := splB_at (c := c) (s := s.extract f s.size) (k := k - f) (by
    rw [ByteArray.data_extract, Array.getElem?_extract, if_pos (by have h2 : s.data.size = s.size := rfl; omega), show f + (k - f) = k by omega]
    exact hk) (noB_ext h (by omega))
  rw [h1]
  congr 1
  · apply ByteArray.ext
    simp [ByteArray.data_extract, Array.extract_extract]
    congr 1
    omega
  · congr 1
    apply ByteArray.ext
    simp [ByteArray.data_extract, Array.extract_extract]
    congr 1
    · omega
    · omega
theorem splB_szs {c : UInt8} {s : ByteArray} {N : Nat} (hs : s.size ≤ N) : ∀ t ∈ splB c s, t.size ≤ N := by
  have key : ∀ l : List UInt8, ∀ t ∈ spl c l, t.length ≤ l.length := by
    intro l
    induction l with
    | nil => simp [spl]
    | cons x xs ih =>
      intro t ht
      have hl := spl_len c xs
      unfold spl at ht
      split at ht
      · rcases List.mem_cons.1 ht with rfl | h
        · simp
        · have := ih t h; simp; omega
      · rcases List.mem_cons.1 ht with rfl | h
        · cases hq : spl c xs with
          | nil => rw [hq] at hl; simp at hl
          | cons u us =>
            have := ih u (by rw [hq]; simp)
            simp
            omega
        · have := ih t (List.mem_of_mem_tail h); simp; omega
  intro t ht
  simp only [splB, List.mem_map] at ht
  obtain ⟨l, hl, rfl⟩ := ht
  have := key _ l hl
  show l.toArray.size ≤ N
  have h2 : s.data.toList.length = s.size := by simp
  simp only [List.size_toArray]
  omega
/-- What stands in front of the first c, what stands behind it, and whether there is one. -/
def Cutd (c : UInt8) (s a b : ByteArray) (r : Bool) : Prop :=
  (r = true ∧ ∃ k, s.data[k]? = some c ∧ noB s c 0 k ∧ a = s.extract 0 k ∧ b = s.extract (k + 1) s.size) ∨ (r = false ∧ noB s c 0 s.size ∧ a = s ∧ b = ⟨#[]⟩)
theorem cutd_size {c : UInt8} {s a b : ByteArray} {r : Bool} (h : Cutd c s a b r) : a.size ≤ s.size ∧ b.size ≤ s.size ∧ (r = true → b.size < s.size) := by
  rcases h with ⟨rfl, k, hk, _, rfl, rfl⟩ | ⟨rfl, _, rfl, rfl⟩
  · have hlt : k < s.size := (Array.getElem?_eq_some_iff.1 hk).1
    simp only [ByteArray.size_extract]
    omega
  · refine ⟨Nat.le_refl _, ?_, fun h => by cases h⟩
    show 0 ≤ _
    omega
theorem cutd_spl {c : UInt8} {s a b : ByteArray} {r : Bool} (h : Cutd c s a b r) : splB c s = if r then a :: splB c b else [a] := by
  rcases h with ⟨rfl, k, hk, hn, rfl, rfl⟩ | ⟨rfl, hn, rfl, rfl⟩
  · exact splB_at hk hn
  · exact splB_none hn
theorem byte_at {s : ByteArray} {k : Nat} (h : k < s.size) : s.data[k]? = some s[k] := by
  rw [Array.getElem?_eq_getElem (by exact h)]
  rfl
theorem one_ext {s : ByteArray} {k : Nat} (h : k < s.size) : s.extract k (k + 1) = ⟨#[s[k]]⟩ := by
  apply ByteArray.ext
  have h' : k < s.data.size := h
  simp only [ByteArray.data_extract]
  apply Array.ext
  · simp; omega
  · intro i h1 h2
    have : i = 0 := by simp at h2; omega
    subst this
    simp
    rfl
theorem noB_succ {s : ByteArray} {c : UInt8} {i k : Nat} (h : noB s c i k) (hk : s.data[k]? ≠ some c) : noB s c i (k + 1) := by
  intro j h1 h2
  by_cases e : j = k
  · subst e; exact hk
  · exact h j h1 (by omega)
/-- What cut hands back. -/
def RetCut (c : UInt8) (s : ByteArray) (w : World) (e : Ending) (w' : World) : Prop := ∃ a b r, e = .returned (.tuple #[.string a, .string b, .bool r]) ∧ Cutd c s a b r ∧ Qt w w'
set_option maxHeartbeats 2000000 in
theorem cut_any (c : UInt8) (s : ByteArray) (w : World) (hs : s.size ≤ 2000000) :
    Calls Tryd.prog 33 #[.string s, .string ⟨#[c]⟩] w (RetCut c s w) := by
  go_enter Tryd.func33, Tryd.ntmps33
  go_wp2
  go_loop [7] (fun i => ∃ k : Nat, k ≤ s.size ∧ i = .int .i64 k ∧ noB s c 0 k) (fun i => s.size - (intOf i).toNat)
  case atStart => exact ⟨0, Nat.zero_le _, rfl, fun j _ h => absurd h (by omega)⟩
  case round =>
    obtain ⟨k, hk, rfl, hno⟩ := hrel
    have HN := Lib.hid hno
    clear hno
    by_cases hlt : k < s.size
    · have h1 : (k : Int) + 1 ≤ s.size := by omega
      have hsl : ∀ wx : World, (Instr.slice 9 (.string s) (some (.int .i64 (k : Int))) (some (.int .i64 ((k : Int) + 1))) none).run Tryd.prog wx = .ok (.string ⟨#[s[k]]⟩) wx := fun wx => by
        have h := run_slice_string (P := Tryd.prog) wx 9 s .i64 .i64 (k : Int) ((k : Int) + 1) Tryd.underlying9 (by omega) (by omega) h1
        rw [show ((k : Int) + 1).toNat = k + 1 by omega, show (k : Int).toNat = k by omega, one_ext hlt] at h
        exact h
      have hat := byte_at hlt
      generalize s[k] = x at *
      have HAT := Lib.hid hat
      clear hat
      by_cases hx : x = c
      · subst hx
        go_wp2
        go_quiet (fail)
        go_wp2
        exact bodyPost_ret (v := .tuple #[.string (s.extract 0 k), .string (s.extract (k + 1) s.size), .bool true]) (by simp [results, Tryd.results33, go_sem, *]) rfl ⟨_, _, _, rfl, .inl ⟨rfl, k, HAT.out, HN.out, rfl, rfl⟩, (by first | exact ⟨_, rfl⟩ | exact ⟨_, World.drewN_drewN _ _ _⟩)⟩
      · have hxb : (x == c) = false := by simpa using hx
        go_wp2
        go_round
        case rel => exact ⟨k + 1, by omega, by go_num, noB_succ HN.out (by rw [HAT.out]; simpa using hx)⟩
        case measure => simp [intOf]; omega
    · obtain rfl : k = s.size := by omega
      go_wp2
      exact bodyPost_ret (v := .tuple #[.string s, .string ⟨#[]⟩, .bool false]) (by simp [results, Tryd.results33, go_sem, *]) rfl ⟨_, _, _, rfl, .inr ⟨rfl, HN.out, rfl, rfl⟩, Qt.refl _⟩
/-- 'append(list, s)'. -/
theorem appW {ops : Array Oper} {rest : List Oper} {o : Oper} {a : Act} {Q : Exit → Act → World → Prop} {w W : World} {v : Value} {n : Nat} {cs ys : List Value} (hgd : o.guard = none) (s x : Operand)
    (ho : o.op = .call { callee := .builtin .append, args := #[s, x], argTypes := #[55, 55] }) (hs : a.eval s = v) (hown : OwnG 9 1 w W v n cs) (hn : n ≤ 4000000) {B : Nat}
    (hx : a.eval x = .slice (some ⟨B, 0, none⟩) 1 1) {ar : Array Value} {t' : TypeId} {fr : Nat × Nat} (hB : W.heap[B]? = some (.cells ar t' fr)) (hc : ar.toList = ys) (hl : ys.length = 1) (h1 : ∀ u ∈ ys, u.oneCell' = true)
    (h : ∀ v' w', OwnG 9 1 w w' v' (n + 1) (cs ++ ys) → wpList Tryd.prog ops Q rest (a.put o.dst v') w') :
    wpList Tryd.prog ops Q (o :: rest) a W := by
  obtain ⟨i, z, hi, hz0, hz1, hz2, hz3⟩ := elStr
  refine wpList_append_lies W hgd s x 55 ho w.heap.size 9 i z 1 16 Tryd.underlying55 hi hz0 hz1 hz2 hz3 (by omega) v n _ hs hown.own ⟨B, 0, none⟩ 1 1 ys hx (by rw [hl]) (newsG hB hc) h1 (by omega) (by unfold maxLen; omega) (by omega) hown.ext.size W.heap.size rfl ?_
  intro g cap w' ho' hg _ _
  exact h _ _ ⟨ho', hown.ext.grown hg (fun k hk => (World.ownsRow.lt hown.own k hk).1)⟩
theorem map_snoc (ws : List ByteArray) (s : ByteArray) : (ws ++ [s]).map Value.string = ws.map Value.string ++ [.string s] := by simp
theorem retS_own {w w' : World} {v : Value} {n : Nat} {ss : List ByteArray} (h : OwnG 9 1 w w' v n (ss.map Value.string)) : RetS w n ss (.returned v) w' := by
  obtain ⟨A, c, rfl⟩ := h.forms
  exact ⟨A, c, rfl, h.row, h.ext⟩
set_option maxHeartbeats 2000000 in
theorem parts_any (s : ByteArray) (w : World) (hs : s.size ≤ 2000000) :
    Calls Tryd.prog 32 #[.string s] w (RetS w (splB 32 s).length (splB 32 s)) := by
  go_enter Tryd.func32, Tryd.ntmps32
  go_wp2
  go_loopw [0, 3] (fun t v wr => ∃ (y : ByteArray) (ws : List ByteArray) (n : Nat), t = .string y ∧ OwnG 9 1 w wr v n (ws.map Value.string) ∧ Hid (ws.length = n ∧ splB 32 s = ws ++ splB 32 y) ∧ y.size ≤ 2000000 ∧ n + y.size ≤ 2000000) (fun t _ _ => match t with | .string y => y.size | _ => 0)
  case atStart => exact ⟨s, [], 0, rfl, ownG_empty (Ext.refl _) 9 1, ⟨rfl, rfl⟩, hs, by omega⟩
  case round =>
    obtain ⟨y, ws, n, rfl, hown, HW, hy, hn⟩ := hrel
    go_wp2_with fail
    (with_reducible refine (cut_any 32 y _ hy).mono ?_)
    rintro e w1 ⟨a, b, r, rfl, hc, q, rfl⟩
    have hz := cutd_size hc
    have hsp := cutd_spl hc
    have HC := Lib.hid hsp
    clear hc hsp
    cases r
    · have HF : Hid (splB 32 s = ws ++ [a] ∧ (splB 32 s).length = n + 1) := by
        have h1 := HC.out
        have h2 : splB 32 s = ws ++ [a] := by rw [HW.out.2, h1]; rfl
        exact ⟨h2, by rw [h2]; simp [HW.out.1]⟩
      go_wp2_with (first | (at_builtin; refine appW rfl _ _ rfl rfl (hown.trans (by with_reducible (repeat (first | exact Ext.refl _ | apply Ext.drewN | apply Ext.drew | apply Ext.alloc | (refine Ext.set ?_ (by first | (simp; done) | (simp; omega) | omega) _) | (refine Ext.trans ?_ (by assumption)))))) (by omega) rfl (heap_alloc_new _ _) (ys := [.string a]) (by rfl) (by rfl) (by simp [Value.oneCell']) ?_; intro v' w3 hown'))
      go_ret
      rw [HF.out.2, HF.out.1]
      rw [← map_snoc] at hown'
      exact retS_own hown'
    · have hlt := hz.2.2 rfl
      have HF : Hid ((ws ++ [a]).length = n + 1 ∧ splB 32 s = (ws ++ [a]) ++ splB 32 b) := by
        have h1 := HC.out
        exact ⟨by simp [HW.out.1], by rw [HW.out.2, h1]; simp⟩
      clear hz
      go_wp2_with (first | (at_builtin; refine appW rfl _ _ rfl rfl (hown.trans (by with_reducible (repeat (first | exact Ext.refl _ | apply Ext.drewN | apply Ext.drew | apply Ext.alloc | (refine Ext.set ?_ (by first | (simp; done) | (simp; omega) | omega) _) | (refine Ext.trans ?_ (by assumption)))))) (by omega) rfl (heap_alloc_new _ _) (ys := [.string a]) (by rfl) (by rfl) (by simp [Value.oneCell']) ?_; intro v' w3 hown'))
      rw [← map_snoc] at hown'
      go_roundw
      case rel => exact ⟨b, ws ++ [a], n + 1, rfl, hown', HF.out, by omega, by omega⟩
      case measure => simpa using hlt
set_option maxHeartbeats 2000000 in
set_option maxRecDepth 100000 in
theorem l01Split_any (c : UInt8) (s : ByteArray) (w : World) (hs : s.size ≤ 2000000) :
    Calls Tryd.prog 29 #[.string s, .int .u8 (c.toNat : Int)] w (RetS w (splB c s).length (splB c s)) := by
  go_enter Tryd.func29, Tryd.ntmps29
  go_wp2
  go_loopw [5, 6, 7] (fun v fr i wr => ∃ (k f : Nat) (ws : List ByteArray) (n : Nat), k ≤ s.size ∧ f ≤ k ∧ i = .int .i64 k ∧ fr = .int .i64 f ∧ OwnG 9 1 w wr v n (ws.map Value.string) ∧ Hid (ws.length = n ∧ splB c s = ws ++ splB c (s.extract f s.size) ∧ noB s c f k) ∧ n ≤ k) (fun _ _ i _ => s.size - (intOf i).toNat)
  case atStart => exact ⟨0, 0, [], 0, Nat.zero_le _, Nat.le_refl _, rfl, rfl, ownG_empty (Ext.refl _) 9 1, ⟨rfl, by simp, fun j _ h => absurd h (by omega)⟩, by omega⟩
  case round =>
    obtain ⟨k, f, ws, n, hk, hf, rfl, rfl, hown, HW, hn⟩ := hrel
    by_cases hlt : k < s.size
    · have hat := byte_at hlt
      have hki : (k : Int) < s.size := by omega
      generalize hxg : s[k] = x at *
      have HAT := Lib.hid hat
      clear hat
      by_cases hx : x = c
      · subst hx
        have HF : Hid ((ws ++ [s.extract f k]).length = n + 1 ∧ splB x s = (ws ++ [s.extract f k]) ++ splB x (s.extract (k + 1) s.size) ∧ noB s x (k + 1) (k + 1)) := by
          refine ⟨by simp [HW.out.1], ?_, fun j h1 h2 => absurd h1 (by omega)⟩
          rw [HW.out.2.1, splB_from HAT.out hf HW.out.2.2]
          simp
        go_wp2_with (first | (at_builtin; refine appW rfl _ _ rfl rfl (hown.trans (by with_reducible (repeat (first | exact Ext.refl _ | apply Ext.drewN | apply Ext.drew | apply Ext.alloc | (refine Ext.set ?_ (by first | (simp; done) | (simp; omega) | omega) _) | (refine Ext.trans ?_ (by assumption)))))) (by omega) rfl (heap_alloc_new _ _) (ys := [Value.string (s.extract f k)]) (by rfl) (by rfl) (by simp [Value.oneCell']) ?_; intro v' w3 hown'))
        rw [← map_snoc] at hown'
        go_roundw
        case rel => exact ⟨k + 1, k + 1, ws ++ [s.extract f k], n + 1, by omega, by omega, by go_num, by go_num, hown', HF.out, by omega⟩
        case measure => simp [intOf]; omega
      · have hxb : (((x.toNat : Nat) : Int) == ((c.toNat : Nat) : Int)) = false := by
          have h1 : x.toNat ≠ c.toNat := fun e => hx (UInt8.toNat_inj.1 e)
          simp; omega
        go_wp2
        go_roundw
        case rel => exact ⟨k + 1, f, ws, n, by omega, by omega, by go_num, rfl, hown, ⟨HW.out.1, HW.out.2.1, noB_succ HW.out.2.2 (by rw [HAT.out]; simpa using hx)⟩, by omega⟩
        case measure => simp [intOf]; omega
    · obtain rfl : k = s.size := by omega
      have HF : Hid (splB c s = ws ++ [s.extract f s.size] ∧ (splB c s).length = n + 1) := by
        have h2 : splB c s = ws ++ [s.extract f s.size] := by
          rw [HW.out.2.1, splB_none (c := c) (s := s.extract f s.size)]
          have := noB_ext (n := s.size) HW.out.2.2 (Nat.le_refl _)
          simpa [ByteArray.size_extract] using this
        exact ⟨h2, by rw [h2]; simp [HW.out.1]⟩
      go_wp2_with (first | (at_builtin; refine appW rfl _ _ rfl rfl (hown.trans (by with_reducible (repeat (first | exact Ext.refl _ | apply Ext.drewN | apply Ext.drew | apply Ext.alloc | (refine Ext.set ?_ (by first | (simp; done) | (simp; omega) | omega) _) | (refine Ext.trans ?_ (by assumption)))))) (by omega) rfl (heap_alloc_new _ _) (ys := [Value.string (s.extract f s.size)]) (by rfl) (by rfl) (by simp [Value.oneCell']) ?_; intro v' w3 hown'))
      go_ret
      rw [HF.out.2, HF.out.1]
      rw [← map_snoc] at hown'
      exact retS_own hown'
end Go.Proofs.YtinkaglngblddaaDoor
