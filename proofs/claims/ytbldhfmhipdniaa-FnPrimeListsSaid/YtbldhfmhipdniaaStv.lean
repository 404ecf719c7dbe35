/- The program's list of patterns: eachPattern, listed with its function, ListPatterns. No condition but the stated bounds. -/
import Derived.Test.YtbldhfmhipdniaaStu
import Derived.Shelf.Abstract
namespace Go.Proofs.Ytbldhfmhipdniaa
set_option linter.unusedVariables false
set_option linter.unusedSimpArgs false
open Go.ChangeShapes Go.WideShapes Go.ChangeAt Go.RowKit Go.Joins Go.Deep

theorem appPL {w0 Wb W : World} {ops : Array Oper} {rest : List Oper} {o : Oper} {a : Act} {Q : Exit → Act → World → Prop} (hgd : o.guard = none) (s x : Operand)
    (ho : o.op = .call { callee := .builtin .append, args := #[s, x], argTypes := #[25, 25] }) {R : List Nat} {ub n : Nat} {U : Nat → Bool} {At : Option Addr} {ct : Nat} {pre : List Int} {Ao : Option Addr} {co : Nat} {out : List (List Int)} (hs : a.eval s = .slice Ao out.length co) (h : Pst w0 Wb R ub n U At ct pre Ao co out) (hx : Ext Wb W) (hn : out.length ≤ 1000000)
    {b : Nat} (hxe : a.eval x = .slice (some ⟨b, 0, none⟩) 1 1) {ar : Array Value} {t' : TypeId} {fr : Nat × Nat} (hB : W.heap[b]? = some (.cells ar t' fr)) {lo2 hi2 : Nat} {B : Option Addr} {m d : Nat} {xs : List Int} (hc : ar.toList = [.slice B m d]) (RR : Row W lo2 hi2 2 1 B m d xs) (hm : xs.length = m)
    (h1 : Wb.heap.size ≤ lo2) (h2 : hi2 ≤ W.heap.size)
    (k : ∀ A' c' w', Pst w0 w' R ub n U At ct pre A' c' (out ++ [xs]) → W.grownBy w' (Ao.map (·.block)) → wpList Try.prog ops Q rest (a.put o.dst (.slice A' (out.length + 1) c')) w') :
    wpList Try.prog ops Q (o :: rest) a W := by
  obtain ⟨i, z, hi, hz0, hz1, hz2, hz3⟩ := elRow
  obtain ⟨H, hF, q1, q2⟩ := h.outs
  obtain ⟨cs, hr, hcc⟩ := hF.row
  refine wpList_append_lies W hgd s x 25 ho w0.heap.size 30 i z 1 24 Try.underlying25 hi hz0 hz1 hz2 hz3 (by omega) _ out.length _ hs (hr.ext hx).own ⟨b, 0, none⟩ 1 1 [.slice B m d] hxe (by simp) (newsG hB hc) (by intro u hu; simp at hu; subst hu; rfl) (by omega) (by unfold maxLen; omega) (by omega) (Nat.le_trans h.ext.size hx.size) W.heap.size rfl ?_
  intro g' cap w' ho' hg hat _
  have hg' : W.grownBy w' (Ao.map (·.block)) := by cases Ao <;> exact hg
  refine k _ _ _ (h.found hx hF q1 q2 hr hcc RR hm h1 h2 ho' hg' ?_) hg'
  rcases hat with h3 | h3
  · left
    cases Ao with
    | none => simp [Value.ownBlock] at h3
    | some a => simpa [Value.ownBlock] using h3.symm
  · right; simp [h3]
/-- The function of listed. -/
def F54 (o : List (List Int)) (p : List Int) : List (List Int) × Bool := (o ++ [p], decide (o.length + 1 ≤ 3000))
def Ok54 (_ : Nat) (o : List (List Int)) : Prop := o.length ≤ 3000
theorem okF54 : OkF F54 Ok54 := ⟨fun _ _ _ _ h => h, fun k o p _ h2 => by have := of_decide_eq_true h2; show (o ++ [p]).length ≤ 3000; simp; omega⟩
theorem runF54 : ∀ (L o : List (List Int)), o.length ≤ 3000 → runF F54 L o = ((o ++ L).take 3001, decide ((o ++ L).length ≤ 3000))
  | [], o, h => by rw [List.append_nil, List.take_of_length_le (by omega), decide_eq_true h]; rfl
  | p :: L, o, h => by
    rw [runF_cons]
    by_cases h1 : o.length + 1 ≤ 3000
    · rw [if_pos (show (F54 o p).2 = true from decide_eq_true h1)]
      show runF F54 L (o ++ [p]) = _
      rw [runF54 L (o ++ [p]) (by simp; omega), List.append_assoc]
      rfl
    · rw [if_neg (show ¬ (F54 o p).2 = true by show ¬ decide _ = true; simpa using h1)]
      show (o ++ [p], decide _) = _
      rw [show o ++ p :: L = (o ++ [p]) ++ L by simp, List.take_append_of_le_length (by simp; omega), List.take_of_length_le (by simp; omega), decide_eq_false h1, decide_eq_false (by simp; omega)]
theorem step58_any (kf n h : Nat) (F : List (List Int) → List Int → List (List Int) × Bool) (Ok : Nat → List (List Int) → Prop) (hF : OkF F Ok) (hc : Clo kf n F Ok) (hent : ∀ (args : Array Value) (w : World), (callFunc kf args).run Try.prog w = .ok (.enter kf args) w) (hn : 1 ≤ n ∧ n ≤ 6) (hh : h ≤ 15) :
    ∀ (d : Nat) (w0 w : World) (g q ub : Nat) (U : Nat → Bool) (pre : List Int) (l : Int) (out : List (List Int)), pre.length + d = n → (∀ y ∈ pre, 0 ≤ y ∧ y ≤ 15) → (0 ≤ l ∧ l ≤ 1000) → Ok (srch n h d U pre l).length out → S58 w0 w g q ub n h (.func (.func kf) #[] #[.pointer (some ⟨q, 0, none⟩)]) U pre out →
      Calls Try.prog 58 #[.pointer (some ⟨g, 0, none⟩), .int .i64 l] w (Stp w0 g q ub n h (.func (.func kf) #[] #[.pointer (some ⟨q, 0, none⟩)]) U pre (runF F (srch n h d U pre l) out))
  | 0 => fun w0 w g q ub U pre l out hp hpb hl ho hS => step58_last kf n h F Ok hc hent hn hh w0 w g q ub U pre l out (by omega) hpb hl ho hS
  | d + 1 => fun w0 w g q ub U pre l out hp hpb hl ho hS => step58_step kf n h d F Ok hF hn hh (step58_any kf n h F Ok hF hc hent hn hh d) w0 w g q ub U pre l out hp hpb hl ho hS
theorem S58.start (w0 w : World) (q n h : Nat) (fn : Value) (Ao : Option Addr) (co : Nat) (hn : n ≤ 1000) (hx : Ext w0 w) (hq : OBx w q Ao 0 co) (hq2 : w0.heap.size ≤ q ∧ q < w.heap.size) (hr : RowG w w0.heap.size w.heap.size 30 1 Ao 0 co []) (hA : ∀ b, Ao.map (·.block) = some b → b ≠ q) :
    S58 w0 ((w.alloc (.cells (madeCells #[.bool false] n) 4)).alloc (.cells #[.int .i64 n, .int .i64 h, .slice none 0 0, .slice (some ⟨w.heap.size, 0, none⟩) n n, fn] 61)) (w.heap.size + 1) q w.heap.size n h fn (fun _ => false) [] [] := by
  have b0 : ((w.alloc (.cells (madeCells #[.bool false] n) 4)).alloc (.cells #[.int .i64 n, .int .i64 h, .slice none 0 0, .slice (some ⟨w.heap.size, 0, none⟩) n n, fn] 61)).heap[w.heap.size]? = some (.cells (madeCells #[.bool false] n) 4) := by
    rw [Below.heap_alloc _ _ _ (by simp)]
    exact heap_alloc_new _ _
  have k : Ext w ((w.alloc (.cells (madeCells #[.bool false] n) 4)).alloc (.cells #[.int .i64 n, .int .i64 h, .slice none 0 0, .slice (some ⟨w.heap.size, 0, none⟩) n n, fn] 61)) := ((Ext.refl _).alloc _).alloc _
  have hz := hx.size
  refine ⟨none, 0, Ao, co, ⟨hx.trans k, fun g hg => ?_, usd_made (w := w) b0 hn hz (by simp; omega), ?_, ⟨⟨by simp, .inl ⟨rfl, rfl⟩⟩, (fun a e => by cases e)⟩, (fun b e => by cases e), fun _ => (none, 0), ⟨⟨[], (hr.ext k).wide (Nat.le_refl _) k.size, (fun i hi => by simp at hi)⟩, (fun i hi => by simp at hi), (fun i j hi => by simp at hi), (fun i hi => by simp at hi)⟩, (fun i hi => by simp at hi), fun b e => ?_⟩, ⟨by go_simp, by go_simp, by go_simp, by go_simp, by go_simp, fun o => by go_simp⟩, hq.keep (Below.block k q hq2.2), by omega⟩
  · simp at hg
    rcases hg with rfl | rfl
    · exact ⟨by omega, by simp⟩
    · exact ⟨hq2.1, by simp; omega⟩
  · simp; omega
  · have h1 := hr.row_bd b e
    have h2 := hA b e
    exact ⟨by simp; omega, by omega, fun e2 => by cases e2⟩
set_option maxHeartbeats 1000000 in
theorem each_any (kf n h p : Nat) (F : List (List Int) → List Int → List (List Int) × Bool) (Ok : Nat → List (List Int) → Prop) (hF : OkF F Ok) (hc : Clo kf n F Ok) (hent : ∀ (args : Array Value) (w : World), (callFunc kf args).run Try.prog w = .ok (.enter kf args) w) (hn : 1 ≤ n ∧ n ≤ 6) (hh : h ≤ 15) (hp : p ≤ 15)
    (w0 w : World) (q : Nat) (Ao : Option Addr) (co : Nat) (hx : Ext w0 w) (hq : OBx w q Ao 0 co) (hq2 : w0.heap.size ≤ q ∧ q < w.heap.size) (hr : RowG w w0.heap.size w.heap.size 30 1 Ao 0 co []) (hA : ∀ b, Ao.map (·.block) = some b → b ≠ q) (hok : Ok (lst p n h).length []) :
    Calls Try.prog 40 #[.int .i64 p, .int .i64 n, .int .i64 h, .func (.func kf) #[] #[.pointer (some ⟨q, 0, none⟩)]] w fun e w' => e = .returned (.tuple #[]) ∧ S58 w0 w' (w.heap.size + 1) q w.heap.size n h (.func (.func kf) #[] #[.pointer (some ⟨q, 0, none⟩)]) (fun _ => false) [] (runF F (lst p n h) []).1 := by
  obtain ⟨l, hl⟩ : ∃ l : Nat, p * n = l := ⟨_, rfl⟩
  have hl2 : (p : Int) * n = l := by rw [← hl]; exact (Int.natCast_mul p n).symm
  have hl3 : l ≤ 15 * 6 := by rw [← hl]; exact Nat.mul_le_mul (by omega) (by omega)
  have hw : IntKind.i64.wrap ((p : Int) * n) = l := by rw [hl2]; exact IntWalk.i64_in _ (by omega)
  have hL : lst p n h = srch n h n (fun _ => false) [] l := by unfold lst; rw [hl2]; rfl
  rw [hL] at hok ⊢
  have HOK := Lib.hid hok
  have hmk := fun W => run_make_bools6 n (by omega) W
  have HS := Lib.hid (S58.start w0 w q n h (.func (.func kf) #[] #[.pointer (some ⟨q, 0, none⟩)]) Ao co (by omega) hx hq hq2 hr hA)
  have HST := Lib.hid (step58_any kf n h F Ok hF hc hent hn hh n w0 ((w.alloc (.cells (madeCells #[.bool false] n) 4)).alloc (.cells #[.int .i64 n, .int .i64 h, .slice none 0 0, .slice (some ⟨w.heap.size, 0, none⟩) n n, .func (.func kf) #[] #[.pointer (some ⟨q, 0, none⟩)]] 61)) (w.heap.size + 1) q w.heap.size (fun _ => false) [] l [] (by simp) (by simp) (by omega) hok HS.out)
  clear hx hq hr hA hok hL hl hl2 hF hc hent
  go_enter Try.func40, Try.ntmps40
  go_wp2_with fail
  (with_reducible refine HST.out.mono ?_)
  rintro e w2 ⟨rfl, h2⟩
  have H2 := Lib.hid h2
  clear h2 hmk
  go_wp2
  go_end0
  exact ⟨rfl, H2.out⟩
set_option maxHeartbeats 1000000 in
theorem clo54 (n : Nat) : Clo 54 n F54 Ok54 := by
  intro w0 Wb w g q ub h fn U At ct pre out B d lo hi hS hx R h1 h2 hp hn hb hok
  obtain ⟨Ao, co, hst, hC, hq, hgq⟩ := hS
  have HST := Lib.hid hst
  have HC := Lib.hid hC
  have HR := Lib.hid R
  have hql := (hst.gl q (by simp)).2
  have hgl := (hst.gl g (by simp)).2
  have HQN : Hid (some q ≠ Ao.map (·.block)) := fun e => by
    obtain ⟨H, hF, h3, h4⟩ := hst.outs
    exact (h4 q e.symm).1 (by simp)
  have HGN : Hid (some g ≠ Ao.map (·.block)) := fun e => by
    obtain ⟨H, hF, h3, h4⟩ := hst.outs
    exact (h4 g e.symm).1 (by simp)
  have HQ0 := Lib.hid hq
  obtain ⟨b0, b1⟩ := hq.keep (Below.block hx q hql)
  have hxz := hx.size
  have ho : out.length ≤ 3000 := hok
  have HX := Lib.hid hx
  have hpx : Ext Wb (w.alloc (.cells #[.slice B pre.length d] 30)) := hx.alloc _
  have HPX := Lib.hid hpx
  clear hst hC hq R hx hb hok hp hpx
  go_enter Try.func54, Try.ntmps54
  go_wp2_with (at_builtin; refine appPL rfl _ _ rfl rfl HST.out HPX.out (by omega) rfl (heap_alloc_new _ _) rfl (HR.out.ext ((Ext.refl _).alloc _)) rfl h1 (by simp; omega) ?_; intro A3 c3 w3 S3 hg3; have hbq3 := (hg3.block q (by simp; omega) HQN.out).trans (Below.block HPX.out q hql); have hbg3 := (hg3.block g (by simp; omega) HGN.out).trans (Below.block HPX.out g hgl); have r0 := (HQ0.out.keep hbq3).c0; have rf := (HQ0.out.keep hbq3).fz)
  have HF : Hid (S58at w0 (w3.setCell ⟨q, 0, none⟩ (.slice A3 (out.length + 1) c3)) g q ub n h fn U At ct pre (out ++ [pre]) ∧ (w3.setCell ⟨q, 0, none⟩ (.slice A3 (out.length + 1) c3)).heap[g]? = w.heap[g]?) := by
    have hgs := S3.gl g (by simp)
    have k := only_setCell (World.grownBy.refl w3 (some q)) (p := ⟨q, 0, none⟩) rfl (.slice A3 (out.length + 1) c3)
    have hb3 := k.block g hgs.2 (by simpa using hgq)
    exact ⟨⟨A3, c3, S3.cell (by simp) 0 _, (HC.out.keep hbg3).keep hb3, ⟨by rw [List.length_append]; go_simp, by go_simp⟩, hgq⟩, (hb3.trans hbg3).trans (Below.block HX.out g hgl).symm⟩
  clear S3 hg3 hbq3 hbg3
  by_cases h3 : out.length + 1 ≤ 3000
  · have h4 : decide ((out.length : Int) + 1 ≤ 3000) = true := decide_eq_true (by omega)
    have HB : Hid (CloOut w0 w g q ub n h fn U At ct pre (F54 out pre) (.returned (.bool true)) (w3.setCell ⟨q, 0, none⟩ (.slice A3 (out.length + 1) c3))) := by
      show CloOut _ _ _ _ _ _ _ _ _ _ _ _ _ _ _
      rw [show F54 out pre = (out ++ [pre], true) by show (_, decide _) = _; rw [decide_eq_true h3]]
      exact ⟨rfl, HF.out.1, HF.out.2⟩
    clear h3 HF
    go_wp2
    go_ret
    (try rw [h4])
    exact HB.out
  · have h4 : decide ((out.length : Int) + 1 ≤ 3000) = false := decide_eq_false (by omega)
    have HB : Hid (CloOut w0 w g q ub n h fn U At ct pre (F54 out pre) (.returned (.bool false)) (w3.setCell ⟨q, 0, none⟩ (.slice A3 (out.length + 1) c3))) := by
      show CloOut _ _ _ _ _ _ _ _ _ _ _ _ _ _ _
      rw [show F54 out pre = (out ++ [pre], false) by show (_, decide _) = _; rw [decide_eq_false h3]]
      exact ⟨rfl, HF.out.1, HF.out.2⟩
    clear h3 HF
    go_wp2
    go_ret
    (try rw [h4])
    exact HB.out
def RetLB (w : World) (L : List (List Int)) (b : Bool) (e : Ending) (w' : World) : Prop :=
  ∃ A k, e = .returned (.tuple #[.slice A L.length k, .bool b]) ∧ Ext w w' ∧ LRow w' w.heap.size w'.heap.size A L.length k L
theorem ent54 (args : Array Value) (w : World) : (callFunc 54 args).run Try.prog w = .ok (.enter 54 args) w := enters_of Try.func54 (by kernel_rfl) rfl args w
set_option maxHeartbeats 1000000 in
theorem listed_any (p n h : Nat) (hp : p ≤ 15) (hn : 1 ≤ n ∧ n ≤ 6) (hh : h ≤ 15) (w : World) :
    Calls Try.prog 34 #[.int .i64 p, .int .i64 n, .int .i64 h] w (RetLB w ((lst p n h).take 3001) (decide ((lst p n h).length ≤ 3000))) := by
  have hmf : ∀ (fn : Fn) (first cap : Array Value) (w : World), (Instr.makeFunc fn first cap).run Try.prog w = .ok (.func fn first cap) w := fun _ _ _ _ => rfl
  have hE : Ext w ((w.alloc (.cells #[] 30)).alloc (.cells #[.slice (some ⟨w.heap.size, 0, none⟩) 0 0] 25)) := ((Ext.refl _).alloc _).alloc _
  have hb0 : ((w.alloc (.cells #[] 30)).alloc (.cells #[.slice (some ⟨w.heap.size, 0, none⟩) 0 0] 25)).heap[w.heap.size]? = some (.cells #[] 30) := by
    rw [Below.heap_alloc _ _ _ (by simp)]
    exact heap_alloc_new _ _
  have HEA := Lib.hid (each_any 54 n h p F54 Ok54 okF54 (clo54 n) ent54 hn hh hp w ((w.alloc (.cells #[] 30)).alloc (.cells #[.slice (some ⟨w.heap.size, 0, none⟩) 0 0] 25)) (w.heap.size + 1) (some ⟨w.heap.size, 0, none⟩) 0 hE ⟨by go_simp, by go_simp⟩ ⟨by omega, by simp⟩ ⟨⟨by simp, .inr ⟨w.heap.size, 0, #[], rfl, Nat.le_refl _, hb0, Nat.le_refl _, by simp [maxLen], by simp, by simp⟩⟩, (fun a e => by cases e; simp; omega)⟩ (fun b e => by simp at e; omega) (by show ([] : List (List Int)).length ≤ 3000; simp))
  clear hE hb0
  go_enter Try.func34, Try.ntmps34
  go_wp2_with fail
  (with_reducible refine HEA.out.mono ?_)
  rintro e w2 ⟨rfl, h2⟩
  rw [runF54 _ _ (by simp), List.nil_append] at h2
  obtain ⟨At, ct, Ao, co, hst, _, hq, _⟩ := h2
  have HST := Lib.hid hst
  obtain ⟨b0, b1⟩ := hq
  have HF : Hid (∀ W, Ext w2 W → RetLB w ((lst p n h).take 3001) (decide ((lst p n h).length ≤ 3000)) (.returned (.tuple #[.slice Ao ((lst p n h).take 3001).length co, .bool (decide ((lst p n h).length ≤ 3000))])) W) := fun W k => by
    have h3 := HST.out.after k
    obtain ⟨H, hF, _⟩ := h3.outs
    exact ⟨Ao, co, rfl, h3.ext, rfl, H, hF⟩
  have hlt : ((lst p n h).take 3001).length ≤ 3001 := List.length_take_le _ _
  obtain ⟨m, hm⟩ : ∃ m, ((lst p n h).take 3001).length = m := ⟨_, rfl⟩
  have hd : decide ((m : Int) ≤ 3000) = decide ((lst p n h).length ≤ 3000) := by
    rw [← hm, List.length_take]
    apply decide_eq_decide.2
    omega
  rw [hm] at b0 HF hlt
  have HM := Lib.hid hm
  obtain ⟨v, hv⟩ : ∃ v, decide ((lst p n h).length ≤ 3000) = v := ⟨_, rfl⟩
  rw [hv] at hd HF ⊢
  have HV := Lib.hid hv
  clear hst hm hv hmf
  cases v
  · go_wp2
    go_quiet (fail)
    go_wp2
    go_ret2
    rw [HV.out]
    exact HF.out _ (by with_reducible (repeat (first | exact Ext.refl _ | apply Ext.drewN | apply Ext.drew | apply Ext.alloc | (refine Ext.set ?_ (by first | (simp; done) | (simp; omega) | omega) _) | (refine Ext.trans ?_ (by assumption)))))
  · go_wp2
    go_quiet (fail)
    go_wp2
    go_ret2
    rw [HV.out]
    exact HF.out _ (by with_reducible (repeat (first | exact Ext.refl _ | apply Ext.drewN | apply Ext.drew | apply Ext.alloc | (refine Ext.set ?_ (by first | (simp; done) | (simp; omega) | omega) _) | (refine Ext.trans ?_ (by assumption)))))
set_option maxHeartbeats 1000000 in
theorem implListPatterns_any (a b c : Int) (w : World) : Calls Try.prog 18 #[.int .i64 a, .int .i64 b, .int .i64 c] w (RetLL w (lstR a b c).1 (lstR a b c).2) := by
  by_cases hc : (btw a 0 15 && btw b 1 6 && btw c 0 15) = true
  · have hR : lstR a b c = (if 3000 < (lst a b c).length then ([], 5) else (lst a b c, 0)) := if_pos hc
    rw [Bool.and_eq_true, Bool.and_eq_true] at hc
    obtain ⟨⟨h1, h2⟩, h3⟩ := hc
    have H1 := Lib.hid h1
    have H2 := Lib.hid h2
    have H3 := Lib.hid h3
    rw [btw_iff] at h1 h2 h3
    obtain ⟨p, rfl⟩ : ∃ p : Nat, (p : Int) = a := ⟨a.toNat, by omega⟩
    obtain ⟨n, rfl⟩ : ∃ n : Nat, (n : Int) = b := ⟨b.toNat, by omega⟩
    obtain ⟨h, rfl⟩ : ∃ h : Nat, (h : Int) = c := ⟨c.toNat, by omega⟩
    have HR := Lib.hid hR
    clear hR
    go_enter Try.func18, Try.ntmps18
    go_wp2_with (first | (go_at_call 33; (with_reducible refine (between_is _ _ _ _ H1.out _).mono ?_); rintro e w' ⟨rfl, rfl⟩) | (go_at_call 33; (with_reducible refine (between_is _ _ _ _ H2.out _).mono ?_); rintro e w' ⟨rfl, rfl⟩) | (go_at_call 33; (with_reducible refine (between_is _ _ _ _ H3.out _).mono ?_); rintro e w' ⟨rfl, rfl⟩) | fail)
    (with_reducible refine (listed_any p n h (by omega) (by omega) (by omega) w).mono ?_)
    by_cases hf : 3000 < (lst p n h).length
    · have HE : Hid (lstR p n h = ([], 5)) := by show _ = _; rw [HR.out, if_pos hf]
      rw [decide_eq_false (by omega)]
      rintro e w2 ⟨A, k, rfl, hx, hr⟩
      have HX := Lib.hid hx
      clear hr hf hx
      go_wp2
      go_ret2
      rw [HE.out]
      exact RetLL.bare HX.out 5
    · have HE : Hid (lstR p n h = (lst p n h, 0)) := by show _ = _; rw [HR.out, if_neg hf]
      rw [decide_eq_true (by omega), List.take_of_length_le (by omega)]
      rintro e w2 ⟨A, k, rfl, hx, hr⟩
      have HX : Hid (RetLL w (lst p n h) 0 (.returned (.tuple #[.slice A (lst p n h).length k, .int .i64 0])) w2) := ⟨A, k, rfl, hx, hr⟩
      clear hr hf hx
      go_wp2
      go_ret2
      rw [HE.out]
      exact HX.out
  · have hR : lstR a b c = ([], 2) := if_neg hc
    have HR := Lib.hid hR
    clear hR
    obtain ⟨v1, e1⟩ : ∃ v, btw a 0 15 = v := ⟨_, rfl⟩
    obtain ⟨v2, e2⟩ : ∃ v, btw b 1 6 = v := ⟨_, rfl⟩
    obtain ⟨v3, e3⟩ : ∃ v, btw c 0 15 = v := ⟨_, rfl⟩
    rw [e1, e2, e3] at hc
    have H1 := Lib.hid e1
    have H2 := Lib.hid e2
    have H3 := Lib.hid e3
    clear e1 e2 e3
    cases v1 <;> cases v2 <;> cases v3 <;> simp at hc
    all_goals
      go_enter Try.func18, Try.ntmps18
      go_wp2_with (first | (go_at_call 33; (with_reducible refine (between_is _ _ _ _ H1.out _).mono ?_); rintro e w' ⟨rfl, rfl⟩) | (go_at_call 33; (with_reducible refine (between_is _ _ _ _ H2.out _).mono ?_); rintro e w' ⟨rfl, rfl⟩) | (go_at_call 33; (with_reducible refine (between_is _ _ _ _ H3.out _).mono ?_); rintro e w' ⟨rfl, rfl⟩) | fail)
      go_ret2
      rw [HR.out]
      exact RetLL.bare (Ext.refl _) 2
end Go.Proofs.Ytbldhfmhipdniaa
