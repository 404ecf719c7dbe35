/- Evo Evl Evm Evn Evp in one text (a claim has at most 60 files). No condition but the stated bounds. -/
import Derived.Test.YtbldhfmhipdniaaStx
import Derived.Test.YtbldhfmhipdniaaLnc
namespace Go.Proofs.Ytbldhfmhipdniaa
set_option linter.unusedVariables false
set_option linter.unusedSimpArgs false
open Go.RowKit

def prq (p : List Int) : Bool := lnP p && prm p
def ck (a b c : Nat) : Bool := ((lst a b c).filter prq).length.ble 20
def ckp (a c : Nat) : Bool := (List.range 6).all fun n => ck a (n + 1) c
end Go.Proofs.Ytbldhfmhipdniaa

namespace Go.Proofs.Ytbldhfmhipdniaa
set_option linter.unusedVariables false
set_option linter.unusedSimpArgs false
open Go.RowKit

set_option maxRecDepth 1000000 in
theorem ck_0_1 : ckp 0 1 = true := by kernel_rfl
set_option maxRecDepth 1000000 in
theorem ck_1_1 : ckp 1 1 = true := by kernel_rfl
set_option maxRecDepth 1000000 in
theorem ck_0_2 : ckp 0 2 = true := by kernel_rfl
set_option maxRecDepth 1000000 in
theorem ck_1_2 : ckp 1 2 = true := by kernel_rfl
set_option maxRecDepth 1000000 in
theorem ck_2_2 : ckp 2 2 = true := by kernel_rfl
set_option maxRecDepth 1000000 in
theorem ck_0_3 : ckp 0 3 = true := by kernel_rfl
set_option maxRecDepth 1000000 in
theorem ck_1_3 : ckp 1 3 = true := by kernel_rfl
set_option maxRecDepth 1000000 in
theorem ck_2_3 : ckp 2 3 = true := by kernel_rfl
set_option maxRecDepth 1000000 in
theorem ck_3_3 : ckp 3 3 = true := by kernel_rfl
set_option maxRecDepth 1000000 in
theorem ck_0_4 : ckp 0 4 = true := by kernel_rfl
set_option maxRecDepth 1000000 in
theorem ck_1_4 : ckp 1 4 = true := by kernel_rfl
set_option maxRecDepth 1000000 in
theorem ck_2_4 : ckp 2 4 = true := by kernel_rfl
set_option maxRecDepth 1000000 in
theorem ck_3_4 : ckp 3 4 = true := by kernel_rfl
set_option maxRecDepth 1000000 in
theorem ck_4_4 : ckp 4 4 = true := by kernel_rfl
set_option maxRecDepth 1000000 in
theorem ck_0_5 : ckp 0 5 = true := by kernel_rfl
set_option maxRecDepth 1000000 in
theorem ck_5_5 : ckp 5 5 = true := by kernel_rfl
set_option maxRecDepth 1000000 in
theorem ck_1_5 : ckp 1 5 = true := by kernel_rfl
set_option maxRecDepth 1000000 in
theorem ck_4_5 : ckp 4 5 = true := by kernel_rfl
end Go.Proofs.Ytbldhfmhipdniaa

namespace Go.Proofs.Ytbldhfmhipdniaa
set_option linter.unusedVariables false
set_option linter.unusedSimpArgs false
open Go.RowKit

set_option maxRecDepth 1000000 in
theorem ck_2_5 : ckp 2 5 = true := by kernel_rfl
end Go.Proofs.Ytbldhfmhipdniaa

namespace Go.Proofs.Ytbldhfmhipdniaa
set_option linter.unusedVariables false
set_option linter.unusedSimpArgs false
open Go.RowKit

set_option maxRecDepth 1000000 in
theorem ck_3_5 : ckp 3 5 = true := by kernel_rfl
end Go.Proofs.Ytbldhfmhipdniaa

namespace Go.Proofs.Ytbldhfmhipdniaa
set_option linter.unusedVariables false
set_option linter.unusedSimpArgs false
open Go.RowKit

theorem ck_of {a b c : Nat} (h : ckp a c = true) (hb : 1 ≤ b ∧ b ≤ 6) : ((lst a b c).filter prq).length ≤ 20 := by
  unfold ckp at h
  rw [List.all_eq_true] at h
  have h1 := h (b - 1) (List.mem_range.2 (by omega))
  rw [show b - 1 + 1 = b by omega] at h1
  exact Nat.le_of_ble_eq_true h1
/-- At most 20 prime patterns. -/
theorem prq_few (a b c : Nat) (hb : 1 ≤ b ∧ b ≤ 6) (hc : 1 ≤ c ∧ c ≤ 5) (ha : a ≤ c) : ((lst a b c).filter prq).length ≤ 20 := by
  rcases (show c = 1 ∨ c = 2 ∨ c = 3 ∨ c = 4 ∨ c = 5 by omega) with rfl | rfl | rfl | rfl | rfl
  · rcases (show a = 0 ∨ a = 1 by omega) with rfl | rfl
    · exact ck_of ck_0_1 hb
    · exact ck_of ck_1_1 hb
  · rcases (show a = 0 ∨ a = 1 ∨ a = 2 by omega) with rfl | rfl | rfl
    · exact ck_of ck_0_2 hb
    · exact ck_of ck_1_2 hb
    · exact ck_of ck_2_2 hb
  · rcases (show a = 0 ∨ a = 1 ∨ a = 2 ∨ a = 3 by omega) with rfl | rfl | rfl | rfl
    · exact ck_of ck_0_3 hb
    · exact ck_of ck_1_3 hb
    · exact ck_of ck_2_3 hb
    · exact ck_of ck_3_3 hb
  · rcases (show a = 0 ∨ a = 1 ∨ a = 2 ∨ a = 3 ∨ a = 4 by omega) with rfl | rfl | rfl | rfl | rfl
    · exact ck_of ck_0_4 hb
    · exact ck_of ck_1_4 hb
    · exact ck_of ck_2_4 hb
    · exact ck_of ck_3_4 hb
    · exact ck_of ck_4_4 hb
  · rcases (show a = 0 ∨ a = 1 ∨ a = 2 ∨ a = 3 ∨ a = 4 ∨ a = 5 by omega) with rfl | rfl | rfl | rfl | rfl | rfl
    · exact ck_of ck_0_5 hb
    · exact ck_of ck_1_5 hb
    · exact ck_of ck_2_5 hb
    · exact ck_of ck_3_5 hb
    · exact ck_of ck_4_5 hb
    · exact ck_of ck_5_5 hb
end Go.Proofs.Ytbldhfmhipdniaa
