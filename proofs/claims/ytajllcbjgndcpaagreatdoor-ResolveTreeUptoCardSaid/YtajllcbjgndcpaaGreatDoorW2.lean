/- WALKS: isLabel, split, join. -/
import Derived.Test.YtajllcbjgndcpaaGreatDoorShelf
import Derived.Test.YtajllcbjgndcpaaGreatDoorW1
import Derived.OpenShut
namespace Go.Proofs.YtajllcbjgndcpaaGreatDoor
open Go.RowKit

/-- A general predicate on runes that says no to every byte from 128 on. -/
theorem idx_all (p : Nat → Bool) (q : UInt8 → Bool) (hlow : ∀ c : UInt8, c.toNat < 128 → p c.toNat = !q c) (hhigh : ∀ x, 128 ≤ x → p x = true) (hq : ∀ c : UInt8, 128 ≤ c.toNat → q c = false) (s : ByteArray) :
    ∀ f pos, s.size ≤ pos + f → (decide (0 ≤ Lib.idxFuncFrom p true s f pos)) = !(s.data.toList.drop pos).all q := by
  intro f
  induction f with
  | zero =>
    intro pos h
    have : s.data.toList.drop pos = [] := by rw [List.drop_eq_nil_iff]; simp; simpa using h
    rw [this]; simp [Lib.idxFuncFrom]
  | succ f ih =>
    intro pos h
    unfold Lib.idxFuncFrom
    by_cases hp : pos < s.size
    · rw [if_pos hp]
      have hd : s.data.toList.drop pos = s[pos] :: s.data.toList.drop (pos + 1) := by
        rw [List.drop_eq_getElem_cons (by simpa using hp)]; rfl
      rw [hd, List.all_cons]
      by_cases ha : (s[pos]).toNat < 128
      · rw [decode_ascii s pos hp ha]
        simp only [hlow _ ha]
        cases hc : q s[pos] with
        | true =>
          rw [if_neg (by simp)]
          simpa using ih (pos + 1) (by omega)
        | false => rw [if_pos (by simp)]; simp
      · have h1 := decode_high s pos hp (by omega)
        rw [hhigh _ h1.1, if_pos rfl, hq _ (by omega)]
        simp
    · rw [if_neg hp]
      have : s.data.toList.drop pos = [] := by rw [List.drop_eq_nil_iff]; simp; simpa using hp
      rw [this]; simp

theorem okc_rune (c : UInt8) : badRune c.toNat = !Lb.okc c := by
  rw [Bool.eq_iff_iff]
  simp [badRune, Lb.okc, UInt8.le_iff_toNat_le, ← UInt8.toNat_inj]
theorem idx_bad (s : ByteArray) : decide (0 ≤ Lib.idxFunc badRune true s) = !s.data.toList.all Lb.okc := by
  have h := idx_all badRune Lb.okc (fun c _ => okc_rune c) (by intro x hx; simp [badRune]; omega) (by intro c hc; have := okc_rune c; rw [show badRune c.toNat = true from by simp [badRune]; omega] at this; simpa using this.symm) s s.size 0 (by omega)
  unfold Lib.idxFunc
  rw [h, List.drop_zero]

theorem enters_bad : ∀ args w, (callFunc 89 args).run Tryz.prog w = .ok (.enter 89 args) w := fun args w => enters_of Tryz.func89 (by kernel_rfl) rfl args w

end Go.Proofs.YtajllcbjgndcpaaGreatDoor
