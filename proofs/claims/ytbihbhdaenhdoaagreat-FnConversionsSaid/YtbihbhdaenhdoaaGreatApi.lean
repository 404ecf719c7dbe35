/- Appending a slice of integers to a row of the call's own; parts of slices; contracts of copyNumbers, sameNumbers. No condition but the stated bounds. -/
import Derived.Test.YtbihbhdaenhdoaaGreatApp
import Derived.Maps.AppendAt
namespace Go.Proofs.YtbihbhdaenhdoaaGreat
set_option linter.unusedVariables false
set_option linter.unusedSimpArgs false
open Go.RowKit Go.Joins

theorem addr_add (b off j : Nat) : (⟨b, off, none⟩ : Addr).add j = ⟨b, off + j, none⟩ := by
  unfold Addr.add
  by_cases h : j = 0 <;> simp [h]
section
variable {W : World} {v : Value} {n : Nat} {xs news : List Int} {lo : Nat}
theorem run_append_nil (W : World) (base : Nat) (t ty e : TypeId) (i : TypeInfo) (size : Nat) {P : Program} (ht : P.underlying t = some (.slice e)) (hi : P.info? e = some i)
    (v : Value) (n : Nat) (xs : List Value) (hown : W.ownsRow base e size v n xs) (c : Nat) : (Builtin.append_ #[t, t] ty #[v, .slice none 0 c]).run P W = .ok v W := by
  rcases hown.2 with ⟨rfl, rfl⟩ | ⟨g, cap, cur, rfl, _, _, hnc, _⟩
  · simp [Builtin.append_, run_underlying ht, sizeOf, typeInfo, hi, Builtin.lenOf, Builtin.firstCells]
  · simp [Builtin.append_, run_underlying ht, sizeOf, typeInfo, hi, Builtin.lenOf, Builtin.firstCells, hnc, storeCells]
theorem wp_appI {o : Oper} {a : Act} {K : Act → World → Prop} {Q : Exit → Act → World → Prop} (s x : Operand)
    (ho : o.op = .call { callee := .builtin .append, args := #[s, x], argTypes := #[24, 24] }) (hs : a.eval s = v) (hown : W.ownsRow lo 2 1 v n (xs.map (Value.int .i64))) (hlo : lo ≤ W.heap.size)
    {A : Option Addr} {m c : Nat} (hx : a.eval x = .slice A m c) (hr : Ints W A m news) (hnm : n + m ≤ 1000000)
    (h : ∀ v' w', w'.ownsRow lo 2 1 v' (n + m) ((xs ++ news).map (Value.int .i64)) → W.grownBy w' v.ownBlock → (v'.ownBlock = v.ownBlock ∨ v'.ownBlock = some W.heap.size) → K (a.put o.dst v') w') : o.wp Tryz.prog a W K Q := by
  obtain ⟨i, z, hi, hz0, hz1, hz2, hz3⟩ := elInt
  have key : ∃ v' w', (Builtin.append_ #[24, 24] o.type #[v, .slice A m c]).run Tryz.prog W = .ok v' w' ∧ w'.ownsRow lo 2 1 v' (n + m) ((xs ++ news).map (Value.int .i64)) ∧ W.grownBy w' v.ownBlock ∧ (v'.ownBlock = v.ownBlock ∨ v'.ownBlock = some W.heap.size) := by
    cases A with
    | none =>
      have hm : m = 0 := by
        rcases Nat.eq_zero_or_pos m with h0 | h0
        · exact h0
        · obtain ⟨b, off, e, _⟩ := hr.at_ h0
          cases e
      subst hm
      have hn : news = [] := List.eq_nil_of_length_eq_zero hr.len
      subst hn
      exact ⟨v, W, run_append_nil W lo _ _ _ i 1 Tryz.underlying24 hi v n _ hown c, by simpa using hown, World.grownBy.refl W _, .inl rfl⟩
    | some ad =>
      have hcells : ∀ j u, (news.map (Value.int .i64))[j]? = some u → W.cell? (ad.add j) = some u := by
        intro j u hu
        have hj : j < m := by
          have := (List.getElem?_eq_some_iff.1 hu).1
          simpa [hr.len] using this
        obtain ⟨b, off, e, _, hc⟩ := hr.at_ (by omega)
        cases e
        rw [addr_add, hc j hj]
        rw [List.getElem?_map, List.getElem?_eq_getElem (show j < news.length by rw [hr.len]; exact hj)] at hu
        rw [List.getElem?_eq_getElem (show j < news.length by rw [hr.len]; exact hj)]
        simpa using hu
      obtain ⟨v', w', hrun, h2, h3, _, h5⟩ := run_append_own_at (P := Tryz.prog) W lo 24 o.type 2 i z 1 8 Tryz.underlying24 hi hz0 hz1 hz2 hz3 (by omega) v n _ hown ad m c (news.map (Value.int .i64)) (by simp [hr.len]) hcells (oneCell_ints news) (by unfold maxLen; omega) (by omega) hlo
      exact ⟨v', w', hrun, by simpa using h2, h3, h5⟩
  obtain ⟨v', w', hrun, h2, h3, h4⟩ := key
  unfold Oper.wp execOp
  simp only [ho, resolve, invoke, builtin, Sem.run_bind, Sem.run_pure, Result.andThen_ok, List.map_toArray, List.map_cons, List.map_nil, hs, hx, hrun]
  exact h v' w' h2 h3 h4
/-- 'append(out, list...)' in a plain region. -/
theorem appI {ops : Array Oper} {rest : List Oper} {o : Oper} {a : Act} {Q : Exit → Act → World → Prop} (hgd : o.guard = none) (s x : Operand)
    (ho : o.op = .call { callee := .builtin .append, args := #[s, x], argTypes := #[24, 24] }) (hs : a.eval s = v) (hown : W.ownsRow lo 2 1 v n (xs.map (Value.int .i64))) (hlo : lo ≤ W.heap.size)
    {A : Option Addr} {m c : Nat} (hx : a.eval x = .slice A m c) (hr : Ints W A m news) (hnm : n + m ≤ 1000000)
    (h : ∀ v' w', w'.ownsRow lo 2 1 v' (n + m) ((xs ++ news).map (Value.int .i64)) → W.grownBy w' v.ownBlock → (v'.ownBlock = v.ownBlock ∨ v'.ownBlock = some W.heap.size) → wpList Tryz.prog ops Q rest (a.put o.dst v') w') : wpList Tryz.prog ops Q (o :: rest) a W :=
  wpList_plain hgd fun _ hK => wp_appI s x ho hs hown hlo hx hr hnm fun v' w' h2 h3 h4 => hK _ _ (h v' w' h2 h3 h4)
/-- 'append(out, list...)' at a step of a region that draws. -/
theorem stepI {ops : Array Oper} {o : Oper} {a : Act} {K : Act → World → Prop} {Q : Exit → Act → World → Prop} {E : Prop} (hgd : o.guard = none) (s x : Operand)
    (ho : o.op = .call { callee := .builtin .append, args := #[s, x], argTypes := #[24, 24] }) (hs : a.eval s = v) (hown : W.ownsRow lo 2 1 v n (xs.map (Value.int .i64))) (hlo : lo ≤ W.heap.size)
    {A : Option Addr} {m c : Nat} (hx : a.eval x = .slice A m c) (hr : Ints W A m news) (hnm : n + m ≤ 1000000)
    (h : ∀ v' w', w'.ownsRow lo 2 1 v' (n + m) ((xs ++ news).map (Value.int .i64)) → W.grownBy w' v.ownBlock → (v'.ownBlock = v.ownBlock ∨ v'.ownBlock = some W.heap.size) → K (a.put o.dst v') w') :
    if Region.wanted o (yielded ops a.tmps) = true then Oper.wp Tryz.prog o a W K Q else E := by
  have hw : Region.wanted o (yielded ops a.tmps) = true := by simp [Region.wanted, hgd]
  rw [if_pos hw]
  exact wp_appI s x ho hs hown hlo hx hr hnm h
end
section
variable {w : World} {b off n : Nat} {xs : List Int}
/-- The rest of a slice. -/
theorem Ints.drop {k : Nat} (h : Ints w (some ⟨b, off, none⟩) n xs) (hk : k ≤ n) : Ints w (some ⟨b, off + k, none⟩) (n - k) (xs.drop k) := by
  refine ⟨by rw [List.length_drop, h.len], by have := h.small; omega, fun x hx => h.bds x (List.mem_of_mem_drop hx), fun h0 => ?_⟩
  obtain ⟨b', off', e, hb, hc⟩ := h.at_ (by omega)
  simp only [Option.some.injEq, Addr.mk.injEq, and_true] at e
  obtain ⟨rfl, rfl⟩ := e
  refine ⟨b, off + k, rfl, hb, fun i hi => ?_⟩
  rw [Nat.add_assoc, hc (k + i) (by omega), List.getElem?_drop]
/-- The start of a slice. -/
theorem Ints.take {A : Option Addr} {k : Nat} (h : Ints w A n xs) (hk : k ≤ n) : Ints w A k (xs.take k) := by
  refine ⟨by rw [List.length_take, h.len]; omega, by have := h.small; omega, fun x hx => h.bds x (List.mem_of_mem_take hx), fun h0 => ?_⟩
  obtain ⟨b', off', e, hb, hc⟩ := h.at_ (by omega)
  refine ⟨b', off', e, hb, fun i hi => ?_⟩
  rw [hc i (by omega), List.getElem?_take, if_pos hi]
end
theorem ints_eq {w : World} {A : Option Addr} {n : Nat} {xs ys : List Int} (h : Ints w A n xs) (hy : ys.length = n) (he : ∀ i, i < n → xs[i]?.getD 0 = ys[i]?.getD 0) : xs = ys := by
  apply List.ext_getElem
  · rw [h.len, hy]
  · intro i h1 h2
    have := he i (by rw [← h.len]; exact h1)
    rw [List.getElem?_eq_getElem h1, List.getElem?_eq_getElem h2] at this
    simpa using this
theorem copyNumbers_any (A : Option Addr) (n c : Nat) (xs : List Int) (w : World) (hI : Ints w A n xs) (hn : n ≤ 1000000) :
    Calls Tryz.prog 57 #[.slice A n c] w fun e w' => ∃ A1 c1, e = .returned (.slice A1 n c1) ∧ OwnR 2 1 w w' (.slice A1 n c1) n xs := by
  have HT0 : Hid (∀ (wr : World) (v : Value), OwnR 2 1 w wr v n xs → ∃ A1 c1, Ending.returned v = .returned (.slice A1 n c1) ∧ OwnR 2 1 w wr (.slice A1 n c1) n xs) := by
    intro wr v ho
    obtain ⟨A1, c1, rfl⟩ := ho.forms
    exact ⟨A1, c1, rfl, ho⟩
  have h0 := ownR_empty (Ext.refl w) 2 1
  have hE := Lib.hid h0
  clear h0
  go_enter Tryz.func57, Tryz.ntmps57
  go_wp2_with (at_builtin; refine appI rfl _ _ rfl rfl hE.out.own (by simp) rfl (hI.ext ((Ext.refl _).alloc _)) (by omega) ?_; intro v' w3 ho' hg' hat')
  go_ret
  refine HT0.out _ _ ⟨by simpa using ho', (hE.out.ext).grown hg' (fun k hk => by cases hk; exact Nat.le_refl _)⟩
set_option maxHeartbeats 1000000 in
theorem sameNumbers_any (A B : Option Addr) (n m c d : Nat) (xs ys : List Int) (w : World) (hI : Ints w A n xs) (hJ : Ints w B m ys) :
    Calls Tryz.prog 47 #[.slice A n c, .slice B m d] w fun e w' => e = .returned (.bool (decide (xs = ys))) ∧ Qt w w' := by
  have hs := hI.small
  have hs2 := hJ.small
  by_cases hnm : n = m
  · subst hnm
    have HE := Lib.hid (fun (h : ∀ i, i < n → xs[i]?.getD 0 = ys[i]?.getD 0) => ints_eq hI hJ.len h)
    go_enter Tryz.func47, Tryz.ntmps47
    go_wp2
    go_loopw [13, 5] (fun i _ wr => ∃ k : Nat, k ≤ n ∧ i = .int .i64 k ∧ Qt w wr ∧ ∀ j, j < k → xs[j]?.getD 0 = ys[j]?.getD 0) (fun i _ _ => n - (intOf i).toNat)
    case atStart => exact ⟨0, Nat.zero_le _, rfl, Qt.refl _, fun j h => absurd h (by omega)⟩
    case round =>
      obtain ⟨k, hk, rfl, ⟨q, rfl⟩, hall⟩ := hrel
      have HA := Lib.hid hall
      clear hall
      by_cases hlt : k < n
      · obtain ⟨b, off, hA, hb, hcell⟩ := hI.at_ (by omega)
        obtain ⟨b2, off2, hB, hb2, hcell2⟩ := hJ.at_ (by omega)
        subst hA hB
        have c1 := hcell k hlt
        have c2 := hcell2 k hlt
        have i1 : (k : Int) < n := by omega
        clear hcell hcell2
        by_cases he : xs[k]?.getD 0 = ys[k]?.getD 0
        · have HA2 : Hid (∀ j, j < k + 1 → xs[j]?.getD 0 = ys[j]?.getD 0) := fun j hj => by
            by_cases e : j = k
            · rw [e]; exact he
            · exact HA.out j (by omega)
          rw [he] at c1
          clear he
          go_wp2
          go_quiet (fail)
          go_wp2
          go_roundw
          case rel => exact ⟨k + 1, by omega, by go_num, (by first | exact ⟨_, rfl⟩ | exact ⟨_, World.drewN_drewN _ _ _⟩), HA2.out⟩
          case measure => simp [intOf]; omega
        · have HR : Hid (decide (xs = ys) = false) := decide_eq_false (fun h => he (by rw [h]))
          have hne : (xs[k]?.getD 0 != ys[k]?.getD 0) = true := by simpa using he
          clear he
          generalize xs[k]?.getD 0 = u at *
          generalize ys[k]?.getD 0 = v at *
          go_wp2
          go_quiet (fail)
          go_wp2
          go_ret
          exact ⟨ret_bool HR.out.symm, (by first | exact ⟨_, rfl⟩ | exact ⟨_, World.drewN_drewN _ _ _⟩)⟩
      · have HR : Hid (decide (xs = ys) = true) := decide_eq_true (HE.out (fun i hi => HA.out i (by omega)))
        obtain rfl : k = n := by omega
        go_wp2
        go_ret
        exact ⟨ret_bool HR.out.symm, (by first | exact ⟨_, rfl⟩ | exact ⟨_, World.drewN_drewN _ _ _⟩)⟩
  · have HR : Hid (decide (xs = ys) = false) := decide_eq_false (fun h => hnm (by rw [← hI.len, ← hJ.len, h]))
    have h1 : ((n : Int) != m) = true := by simp; omega
    go_enter Tryz.func47, Tryz.ntmps47
    go_wp2
    go_ret
    exact ⟨ret_bool HR.out.symm, Qt.refl _⟩
theorem sameNumbers_is (A B : Option Addr) (n m c d : Nat) (xs ys : List Int) (w : World) (hI : Ints w A n xs) (hJ : Ints w B m ys) (v : Bool) (hv : decide (xs = ys) = v) :
    Calls Tryz.prog 47 #[.slice A n c, .slice B m d] w fun e w' => e = .returned (.bool v) ∧ Qt w w' := by
  subst hv
  exact sameNumbers_any A B n m c d xs ys w hI hJ
end Go.Proofs.YtbihbhdaenhdoaaGreat
