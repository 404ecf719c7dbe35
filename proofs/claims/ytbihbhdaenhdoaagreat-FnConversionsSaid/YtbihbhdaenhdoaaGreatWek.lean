/- Parts of a notation that may be empty: words, and the laws' marks of them. No condition but the stated bounds. -/
import Derived.Test.YtbihbhdaenhdoaaGreatMul
namespace Go.Proofs.YtbihbhdaenhdoaaGreat
set_option linter.unusedVariables false
set_option linter.unusedSimpArgs false
open Go.ChangeShapes Go.WideShapes Go.ChangeAt Go.RowKit Go.Joins Go.Deep

def RowW (w : World) (lo hi : Nat) (A : Option Addr) (n c : Nat) (xs : List Int) : Prop := Row w lo hi 2 1 A n c xs ∨ (n = 0 ∧ xs = [])
def LRowW (w : World) (lo hi : Nat) (A : Option Addr) (n c : Nat) (L : List (List Int)) : Prop := LRow w lo hi A n c L ∨ (n = 0 ∧ L = [])
def RowSW (w : World) (lo hi : Nat) (A : Option Addr) (n c : Nat) (ts : List (Int × Bool)) : Prop := RowS w lo hi A n c ts ∨ (n = 0 ∧ ts = [])
def PassRW (w : World) (lo hi : Nat) (A : Option Addr) (n c : Nat) (B : Option Addr) (m d : Nat) (ts us : List (Int × Bool)) : Prop := PassR w lo hi A n c B m d ts us ∨ (n = 0 ∧ m = 0 ∧ ts = [] ∧ us = [])
section
variable {w w' : World} {lo hi lo' hi' : Nat} {A B : Option Addr} {n c m d : Nat} {xs : List Int} {L : List (List Int)} {ts us : List (Int × Bool)}
theorem RowW.len (h : RowW w lo hi A n c xs) : xs.length = n := by
  rcases h with h | ⟨rfl, rfl⟩
  · have := h.len; omega
  · rfl
theorem RowW.ext (h : RowW w lo hi A n c xs) (k : Ext w w') : RowW w' lo hi A n c xs := h.imp (fun h => h.ext k) id
theorem RowW.held (h : RowW w lo hi A n c xs) (k : Kept lo' hi' w w') (hr : hi ≤ lo' ∨ hi' ≤ lo) : RowW w' lo hi A n c xs := h.imp (fun h => h.held k hr) id
theorem RowW.ints (h : RowW w lo hi A n c xs) (hn : n ≤ 1000000000) (hb : ∀ y ∈ xs, -9223372036854775808 ≤ y ∧ y ≤ 9223372036854775807) : Ints w A n xs := by
  rcases h with h | ⟨rfl, rfl⟩
  · have := h.ints (by omega) hb
    rwa [Nat.mul_one] at this
  · exact Ints.nil _ _
theorem LRowW.len (h : LRowW w lo hi A n c L) : L.length = n := by
  rcases h with h | ⟨rfl, rfl⟩
  · exact h.len
  · rfl
theorem LRowW.ext (h : LRowW w lo hi A n c L) (k : Ext w w') : LRowW w' lo hi A n c L := h.imp (fun h => h.ext k) id
theorem LRowW.held (h : LRowW w lo hi A n c L) (k : Kept lo' hi' w w') (hr : hi ≤ lo' ∨ hi' ≤ lo) : LRowW w' lo hi A n c L := h.imp (fun h => h.held k hr) id
theorem LRowW.lists (h : LRowW w lo hi A n c L) (hn : n ≤ 1000000000) (hb : bdL L) : Lists w A n L := by
  rcases h with h | ⟨rfl, rfl⟩
  · exact h.lists hn hb
  · exact ⟨rfl, by omega, fun h => absurd h (by omega)⟩
theorem RowSW.len (h : RowSW w lo hi A n c ts) : ts.length = 2 * n := by
  rcases h with h | ⟨rfl, rfl⟩
  · exact h.len
  · rfl
theorem RowSW.ext (h : RowSW w lo hi A n c ts) (k : Ext w w') : RowSW w' lo hi A n c ts := h.imp (fun h => h.ext k) id
theorem RowSW.held (h : RowSW w lo hi A n c ts) (k : Kept lo' hi' w w') (hr : hi ≤ lo' ∨ hi' ≤ lo) : RowSW w' lo hi A n c ts := h.imp (fun h => h.held k hr) id
theorem RowSW.syn (h : RowSW w lo hi A n c ts) (hn : n ≤ 1000000000) : Syn w A n ts := by
  rcases h with h | ⟨rfl, rfl⟩
  · exact h.syn hn
  · exact Syn.nil _ _
theorem PassRW.lens (h : PassRW w lo hi A n c B m d ts us) : ts.length = n ∧ us.length = m := by
  rcases h with h | ⟨rfl, rfl, rfl, rfl⟩
  · exact ⟨h.a.len, h.b.len⟩
  · exact ⟨rfl, rfl⟩
theorem PassRW.ext (h : PassRW w lo hi A n c B m d ts us) (k : Ext w w') : PassRW w' lo hi A n c B m d ts us := h.imp (fun h => h.ext k) id
theorem PassRW.held (h : PassRW w lo hi A n c B m d ts us) (k : Kept lo' hi' w w') (hr : hi ≤ lo' ∨ hi' ≤ lo) : PassRW w' lo hi A n c B m d ts us := h.imp (fun h => h.held k hr) id
theorem PassRW.thrs (h : PassRW w lo hi A n c B m d ts us) (hn : n ≤ 1000000000) (hm : m ≤ 1000000000) : Thr w A n ts ∧ Thr w B m us := by
  rcases h with h | ⟨rfl, rfl, rfl, rfl⟩
  · exact ⟨h.a.thr hn, h.b.thr hm⟩
  · exact ⟨Thr.nil _ _, Thr.nil _ _⟩
end
end Go.Proofs.YtbihbhdaenhdoaaGreat
