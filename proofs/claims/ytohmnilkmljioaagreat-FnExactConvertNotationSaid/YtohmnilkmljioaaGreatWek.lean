/- Parts of a notation that may be empty: words, and the laws' marks of them. No condition but the stated bounds. -/
import Derived.Test.YtohmnilkmljioaaGreatMul
namespace Go.Proofs.YtohmnilkmljioaaGreat
set_option linter.unusedVariables false
set_option linter.unusedSimpArgs false
open Go.ChangeShapes Go.WideShapes Go.ChangeAt Go.RowKit Go.Joins Go.Deep

def RowW (w : World) (lo hi : Nat) (A : Option Addr) (n c : Nat) (xs : List Int) : Prop := Row w lo hi 2 1 A n c xs ∨ (n = 0 ∧ xs = [])
def LRowW (w : World) (lo hi : Nat) (A : Option Addr) (n c : Nat) (L : List (List Int)) : Prop := LRow w lo hi A n c L ∨ (n = 0 ∧ L = [])
def RowSW (w : World) (lo hi : Nat) (A : Option Addr) (n c : Nat) (ts : List (Int × Bool)) : Prop := RowS w lo hi A n c ts ∨ (n = 0 ∧ ts = [])
def PassRW (w : World) (lo hi : Nat) (A : Option Addr) (n c : Nat) (B : Option Addr) (m d : Nat) (ts us : List (Int × Bool)) : Prop := PassR w lo hi A n c B m d ts us ∨ (n = 0 ∧ m = 0 ∧ ts = [] ∧ us = [])
section
variable {w w' : World} {lo hi lo' hi' : Nat} {A B : Option Addr} {n c m d : Nat} {xs : List Int} {L : List (List Int)} {ts us : List (Int × Bool)}
theorem RowW.len (h : RowW w lo hi A n c xs) : xs.length = n := by
  rcases h with h | ⟨rfl, rfl⟩
  · have := h.len; omega
  · rfl
theorem RowW.ext (h : RowW w lo hi A n c xs) (k : Ext w w') : RowW w' lo hi A n c xs := h.imp (fun h => h.ext k) id
theorem RowW.held (h : RowW w lo hi A n c xs) (k : Kept lo' hi' w w') (hr : hi ≤ lo' ∨ hi' ≤ lo) : RowW w' lo hi A n c xs := h.imp (fun h => h.held k hr) id
theorem RowW.ints (h : RowW w lo hi A n c xs) (hn : n ≤ 1000000000) (hb : ∀ y ∈ xs, -9223372036854775808 ≤ y ∧ y ≤ 9223372036854775807) : Ints w A n xs := by
  rcases h with h | ⟨rfl, rfl⟩
  · have := h.ints (by omega) hb
    rwa [Nat.mul_one] at this
  · exact Ints.nil _ _
theorem LRowW.len (h : LRowW w lo hi A n c L) : L.length = n := by
  rcases h with h | ⟨rfl, rfl⟩
  · exact h.len
  · rfl
theorem LRowW.ext (h : LRowW w lo hi A n c L) (k : Ext w w') : LRowW w' lo hi A n c L := h.imp (fun h => h.ext k) id
theorem LRowW.held (h : LRowW w lo hi A n c L) (k : Kept lo' hi' w w') (hr : hi ≤ lo' ∨ hi' ≤ lo) : LRowW w' lo hi A n c L := h.imp (fun h => h.held k hr) id
theorem LRowW.lists (h : LRowW w lo hi A n c L) (hn : n ≤ 1000000000) (hb : bdL L) : Lists w A n L := by
  rcases h with h | ⟨rfl, rfl⟩
  · exact h.lists hn hb
  · exact ⟨rfl, by omega, fun h => absurd h (by omega)⟩
theorem RowSW.len (h : RowSW w lo hi A n c ts) : ts.length = 2 * n := by
  rcases h with h | ⟨rfl, rfl⟩
  · exact h.len
  · rfl
theorem RowSW.ext (h : RowSW w lo hi A n c ts) (k : Ext w w') : RowSW w' lo hi A n c ts := h.imp (fun h => h.ext k) id
theorem RowSW.held (h : RowSW w lo hi A n c ts) (k : Kept lo' hi' w w') (hr : hi ≤ lo' ∨ hi' ≤ lo) : RowSW w' lo hi A n c ts := h.imp (fun h => h.held k hr) id
theorem RowSW.syn (h : RowSW w lo hi A n c ts) (hn : n ≤ 1000000000) : Syn w A n ts := by
  rcases h with h | ⟨rfl, rfl⟩
  · exact h.syn hn
  · exact Syn.nil _ _
theorem PassRW.lens (h : PassRW w lo hi A n c B m d ts us) : ts.length = n ∧ us.length = m := by
  rcases h with h | ⟨rfl, rfl, rfl, rfl⟩
  · exact ⟨h.a.len, h.b.len⟩
  · exact ⟨rfl, rfl⟩
theorem PassRW.ext (h : PassRW w lo hi A n c B m d ts us) (k : Ext w w') : PassRW w' lo hi A n c B m d ts us := h.imp (fun h => h.ext k) id
theorem PassRW.held (h : PassRW w lo hi A n c B m d ts us) (k : Kept lo' hi' w w') (hr : hi ≤ lo' ∨ hi' ≤ lo) : PassRW w' lo hi A n c B m d ts us := h.imp (fun h => h.held k hr) id
theorem PassRW.thrs (h : PassRW w lo hi A n c B m d ts us) (hn : n ≤ 1000000000) (hm : m ≤ 1000000000) : Thr w A n ts ∧ Thr w B m us := by
  rcases h with h | ⟨rfl, rfl, rfl, rfl⟩
  · exact ⟨h.a.thr hn, h.b.thr hm⟩
  · exact ⟨Thr.nil _ _, Thr.nil _ _⟩
end
theorem markInt64S_w (lo hi : Nat) (A : Option Addr) (n c : Nat) (k : Int) (xs : List Int) (w : World) (hO : RowW w lo hi A n c xs) (hk : 0 ≤ k ∧ k ≤ 1000000000000000) (hn : n ≤ 1048576) :
    Calls Tryz.prog 36 #[.slice A n c, .int .i64 k] w fun e w' => e = .returned (.int .i64 (k + n)) ∧ Kept lo hi w w' ∧ RowW w' lo hi A n c (marks k n) := by
  rcases hO with h | ⟨rfl, rfl⟩
  · refine (markInt64S_own lo hi A n c k xs w h hk hn).mono fun _ _ ⟨K, h1, h2, h3, h4⟩ => ?_
    rw [Nat.mul_one] at h2 h4
    exact ⟨by rw [h1, h2], Kept.of_grown h3 (fun g hg => h.row_bd g hg), .inl h4⟩
  · have HT : Hid (∀ W : World, RowW W lo hi A 0 c (marks k 0)) := fun W => .inr ⟨rfl, rfl⟩
    go_enter Tryz.func36, Tryz.ntmps36
    go_wp2
    go_loop [1, 5] (fun s i => i = .int .i64 0 ∧ s = .int .i64 k) (fun _ i => 0)
    case atStart => exact ⟨rfl, rfl⟩
    case round =>
      obtain ⟨rfl, rfl⟩ := hrel
      go_wp2
      go_ret
      exact ⟨ret_int (by simp), Kept.of_ext (Ext.refl _), HT.out _⟩
theorem markInt64SS_w (lo hi : Nat) (A : Option Addr) (n c : Nat) (k : Int) (L : List (List Int)) (w : World) (hO : LRowW w lo hi A n c L) (hk : 0 ≤ k ∧ k ≤ 2000000000000) (hn : n ≤ 1048576) (f : Nat → Nat) (hf : ∀ i, i < n → (ll L i).length = f i ∧ f i ≤ 1048576) :
    Calls Tryz.prog 81 #[.slice A n c, .int .i64 k] w fun e w' => e = .returned (.int .i64 (k + sml f n)) ∧ Kept lo hi w w' ∧ LRowW w' lo hi A n c (mkL k n f) := by
  rcases hO with h | ⟨rfl, rfl⟩
  · exact (markInt64SS_own lo hi A n c k L w h hk hn f hf).mono fun _ _ ⟨h1, h2, h3⟩ => ⟨h1, h2, .inl h3⟩
  · have HT : Hid (∀ W : World, LRowW W lo hi A 0 c (mkL k 0 f)) := fun W => .inr ⟨rfl, rfl⟩
    have HZ : Hid (sml f 0 = 0) := rfl
    clear hf
    go_enter Tryz.func81, Tryz.ntmps81
    go_wp2
    go_loop [1, 5] (fun s i => i = .int .i64 0 ∧ s = .int .i64 k) (fun _ i => 0)
    case atStart => exact ⟨rfl, rfl⟩
    case round =>
      obtain ⟨rfl, rfl⟩ := hrel
      go_wp2
      go_ret
      exact ⟨ret_int (by rw [HZ.out]; simp), Kept.of_ext (Ext.refl _), HT.out _⟩
theorem markMulti_w (lo hi : Nat) (A : Option Addr) (n c : Nat) (k : Int) (L : List (List Int)) (w : World) (hO : LRowW w lo hi A n c L) (hk : 0 ≤ k ∧ k ≤ 2000000000000) (hn : n ≤ 1048576) (f : Nat → Nat) (hf : ∀ i, i < n → (ll L i).length = f i ∧ f i ≤ 1048576) :
    Calls Tryz.prog 37 #[.agg #[.slice A n c], .int .i64 k] w fun e w' => e = .returned (.int .i64 (k + sml f n)) ∧ Kept lo hi w w' ∧ LRowW w' lo hi A n c (mkL k n f) := by
  go_enter Tryz.func37, Tryz.ntmps37
  go_wp2_with fail
  (with_reducible refine (markInt64SS_w lo hi A n c k L _ (hO.ext (by with_reducible (repeat (first | exact Ext.refl _ | apply Ext.drewN | apply Ext.drew | apply Ext.alloc | (refine Ext.set ?_ (by first | (simp; done) | (simp; omega) | omega) _) | (refine Ext.trans ?_ (by assumption)))))) hk hn f hf).mono ?_)
  rintro e w2 ⟨rfl, hkp, hr2⟩
  have HT : Hid (Kept lo hi w w2 ∧ LRowW w2 lo hi A n c (mkL k n f)) := ⟨(Kept.of_ext (by with_reducible (repeat (first | exact Ext.refl _ | apply Ext.drewN | apply Ext.drew | apply Ext.alloc | (refine Ext.set ?_ (by first | (simp; done) | (simp; omega) | omega) _) | (refine Ext.trans ?_ (by assumption)))))).trans hkp, hr2⟩
  clear hkp hr2
  go_wp2
  go_ret
  exact ⟨rfl, HT.out⟩
theorem markSyncBeatS_w (lo hi : Nat) (A : Option Addr) (n c : Nat) (k : Int) (ts : List (Int × Bool)) (w : World) (hO : RowSW w lo hi A n c ts) (hk : 0 ≤ k ∧ k ≤ 2000000000000) (hn : n ≤ 1048576) :
    Calls Tryz.prog 38 #[.slice A n c, .int .i64 k] w fun e w' => e = .returned (.int .i64 (k + 4 * n)) ∧ Kept lo hi w w' ∧ RowSW w' lo hi A n c (mkT k (2 * n)) := by
  rcases hO with h | ⟨rfl, rfl⟩
  · exact (markSyncBeatS_own lo hi A n c k ts w h hk hn).mono fun _ _ ⟨h1, h2, h3⟩ => ⟨h1, Kept.of_grown h2 (fun g hg => h.row_bd g hg), .inl h3⟩
  · have HT : Hid (∀ W : World, RowSW W lo hi A 0 c (mkT k (2 * 0))) := fun W => .inr ⟨rfl, rfl⟩
    go_enter Tryz.func38, Tryz.ntmps38
    go_wp2
    go_loop [1, 5] (fun s i => i = .int .i64 0 ∧ s = .int .i64 k) (fun _ i => 0)
    case atStart => exact ⟨rfl, rfl⟩
    case round =>
      obtain ⟨rfl, rfl⟩ := hrel
      go_wp2
      go_ret
      exact ⟨ret_int (by simp), Kept.of_ext (Ext.refl _), HT.out _⟩
theorem markPassThrowS_none (A : Option Addr) (c : Nat) (k : Int) (w : World) :
    Calls Tryz.prog 82 #[.slice A 0 c, .int .i64 k] w fun e w' => e = .returned (.int .i64 k) ∧ Ext w w' := by
  go_enter Tryz.func82, Tryz.ntmps82
  go_wp2
  go_loop [1, 5] (fun s i => i = .int .i64 0 ∧ s = .int .i64 k) (fun _ i => 0)
  case atStart => exact ⟨rfl, rfl⟩
  case round =>
    obtain ⟨rfl, rfl⟩ := hrel
    go_wp2
    go_ret
    exact ⟨rfl, Ext.refl _⟩
theorem markPassing_w (lo hi : Nat) (A : Option Addr) (n c : Nat) (B : Option Addr) (m d : Nat) (k : Int) (ts us : List (Int × Bool)) (w : World) (hO : PassRW w lo hi A n c B m d ts us) (hk : 0 ≤ k ∧ k ≤ 2000000000000) (hn : n ≤ 1048576) (hm : m ≤ 1048576) (hhi : hi ≤ w.heap.size) :
    Calls Tryz.prog 39 #[.agg #[.slice A n c, .slice B m d], .int .i64 k] w fun e w' => e = .returned (.int .i64 (k + 2 * n + 2 * m)) ∧ Kept lo hi w w' ∧ PassRW w' lo hi A n c B m d (mkT k n) (mkT (k + 2 * n) m) := by
  rcases hO with h | ⟨rfl, rfl, rfl, rfl⟩
  · exact (markPassing_own lo hi A n c B m d k ts us w h hk hn hm hhi).mono fun _ _ ⟨h1, h2, h3⟩ => ⟨h1, h2, .inl h3⟩
  · have HT : Hid (∀ W : World, PassRW W lo hi A 0 c B 0 d (mkT k 0) (mkT (k + 2 * (0 : Nat)) 0)) := fun W => .inr ⟨rfl, rfl, rfl, rfl⟩
    have hng : ¬ k < 0 := by omega
    go_enter Tryz.func39, Tryz.ntmps39
    go_wp2_with fail
    (with_reducible refine (markPassThrowS_none A c k _).mono ?_)
    rintro e w1 ⟨rfl, hx⟩
    have hz1 := hx.size
    (try simp at hz1)
    have q0 : w.heap.size < w1.heap.size := by omega
    have k0 : ∀ o, w1.cell? ⟨w.heap.size, o, none⟩ = _ := fun o => hx.cells.1 _ o (by first | (simp; done) | (simp; omega) | omega)
    have hE : Ext w w1 := Ext.trans (by with_reducible (repeat (first | exact Ext.refl _ | apply Ext.drewN | apply Ext.drew | apply Ext.alloc | (refine Ext.set ?_ (by first | (simp; done) | (simp; omega) | omega) _) | (refine Ext.trans ?_ (by assumption))))) hx
    clear hx
    go_wp2_with fail
    (with_reducible refine (markPassThrowS_none B d k _).mono ?_)
    rintro e w2 ⟨rfl, hx2⟩
    have hE2 := hE.trans hx2
    clear hx2
    go_wp2
    go_ret
    exact ⟨ret_int (by simp), Kept.of_ext hE2, HT.out _⟩
end Go.Proofs.YtohmnilkmljioaaGreat
