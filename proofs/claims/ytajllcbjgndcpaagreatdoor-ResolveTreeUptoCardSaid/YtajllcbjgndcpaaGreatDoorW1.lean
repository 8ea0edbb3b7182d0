/- WALKS: small functions of labels: the closure of isLabel, cmp.Compare at strings. -/
import Derived.Test.YtajllcbjgndcpaaGreatDoorProg
import Derived.Test.YtajllcbjgndcpaaGreatDoorLb
import Derived.WalkKit
import Derived.WalkLawsBesides
import Derived.WalkSpells
namespace Go.Proofs.YtajllcbjgndcpaaGreatDoor
open Go.RowKit

theorem ret_bool {a b : Bool} (h : a = b) : Ending.returned (.bool a) = .returned (.bool b) := by rw [h]
theorem ret_int {k : IntKind} {a b : Int} (h : a = b) : Ending.returned (.int k a) = .returned (.int k b) := by rw [h]

/-- What isLabel's closure says of a rune. -/
def badRune (x : Nat) : Bool := !((decide (97 ≤ x) && decide (x ≤ 122)) || (decide (48 ≤ x) && decide (x ≤ 57)) || x == 45 || x == 95)

set_option maxHeartbeats 800000 in
theorem badRune_any (x : Nat) (w : World) : Calls Tryz.prog 89 #[.int .i32 (x : Int)] w fun e w' => e = .returned (.bool (badRune x)) ∧ w' = w := by
  go_enter Tryz.func89, Tryz.ntmps89
  go_wp2
  all_goals go_ret
  all_goals exact ⟨ret_bool (by rw [Bool.eq_iff_iff]; simp [badRune] <;> omega), rfl⟩


theorem bytesLess_blt : ∀ a b : List UInt8, Op.bytesLess a b = Lb.blt a b := by
  intro a
  induction a with
  | nil => intro b; cases b <;> simp [Op.bytesLess, Lb.blt]
  | cons x s ih => intro b; cases b <;> simp [Op.bytesLess, Lb.blt, ih]

theorem cmp_less {a b : ByteArray} (h : Op.bytesLess a.toList b.toList = true) : -1 = Lb.cmpS a.data.toList b.data.toList := by
  rw [ByteArray.toList_eq, ByteArray.toList_eq, bytesLess_blt] at h
  unfold Lb.cmpS
  rw [if_pos h]
theorem cmp_same {a b : ByteArray} (h : (!a.toList == b.toList) = false) : 0 = Lb.cmpS a.data.toList b.data.toList := by
  have : a.toList = b.toList := by simpa using h
  rw [ByteArray.toList_eq, ByteArray.toList_eq] at this
  rw [this, Lb.cmpS_self]
theorem cmp_more {a b : ByteArray} (h : Op.bytesLess a.toList b.toList = false) (h2 : (!a.toList == b.toList) = true) : 1 = Lb.cmpS a.data.toList b.data.toList := by
  have : a.toList ≠ b.toList := by simpa using h2
  rw [ByteArray.toList_eq, ByteArray.toList_eq] at this h
  rw [bytesLess_blt] at h
  unfold Lb.cmpS
  rw [if_neg (by simp [h])]
  by_cases h3 : Lb.blt b.data.toList a.data.toList = true
  · rw [if_pos h3]
  · exact absurd (Lb.blt_total _ _ h (by simpa using h3)) this

set_option maxHeartbeats 800000 in
theorem cmpStr_any (a b : ByteArray) (w : World) : Calls Tryz.prog 83 #[.string a, .string b] w fun e w' => e = .returned (.int .i64 (Lb.cmpS a.data.toList b.data.toList)) ∧ w' = w := by
  go_enter Tryz.func83, Tryz.ntmps83
  go_wp2_with go_in
  · go_ret; exact ⟨ret_int (cmp_less (by assumption)), rfl⟩
  · go_ret; exact ⟨ret_int (cmp_more (by assumption) (by assumption)), rfl⟩
  · go_ret; exact ⟨ret_int (cmp_same (by assumption)), rfl⟩

end Go.Proofs.YtajllcbjgndcpaaGreatDoor
