/- WALKS: isLabel. -/
import Derived.Test.YtajllcbjgndcpaaGreatDoorW2
namespace Go.Proofs.YtajllcbjgndcpaaGreatDoor
open Go.RowKit

def cutset : ByteArray := ⟨#[97, 98, 99, 100, 101, 102, 103, 104, 105, 106, 107, 108, 109, 110, 111, 112, 113, 114, 115, 116, 117, 118, 119, 120, 121, 122, 48, 49, 50, 51, 52, 53, 54, 55, 56, 57, 45, 95]⟩

theorem trim_any (s : ByteArray) (w : World) (hs : s.size ≤ 9223372036854775807) :
    Calls Tryz.prog 87 #[.string s, .string ⟨#[97, 98, 99, 100, 101, 102, 103, 104, 105, 106, 107, 108, 109, 110, 111, 112, 113, 114, 115, 116, 117, 118, 119, 120, 121, 122, 48, 49, 50, 51, 52, 53, 54, 55, 56, 57, 45, 95]⟩] w fun e w' => e = .returned (.string ⟨(Lib.trimS s.data.toList cutset.data.toList).toArray⟩) ∧ Below w.heap.size w w' :=
  Any.strings_Trim_laid Tryz.lays160 (by kernel_rfl) s cutset w hs (by decide) (ascii_of_all (by decide))

theorem contains_bad (s : ByteArray) (w : World) :
    Calls Tryz.prog 88 #[.string s, .func (.func 89) #[] #[]] w fun e w' => e = .returned (.bool (!s.data.toList.all Lb.okc)) ∧ Below w.heap.size w w' := by
  have h := Tryz.strings_ContainsFunc 89 #[] enters_bad badRune s w (fun W x _ => (badRune_any x W).mono fun e W' ⟨he, hw⟩ => ⟨he, 0, hw⟩)
  rw [idx_bad] at h
  exact h

theorem star_eq {s : ByteArray} : (s.toList == [42]) = (s.data.toList == [42]) := by rw [ByteArray.toList_eq]
theorem size_len (s : ByteArray) : s.data.toList.length = s.size := by simp
theorem lab_star {s : ByteArray} (h : (s.toList == [42]) = true) : true = Lb.isLab s.data.toList := by
  rw [star_eq] at h; unfold Lb.isLab; rw [h]; rfl
theorem lab_long {s : ByteArray} (h : (s.toList == [42]) = false) (h2 : 20 < s.size) : false = Lb.isLab s.data.toList := by
  rw [star_eq] at h; unfold Lb.isLab; rw [h, size_len, decide_eq_false (show ¬ s.size ≤ 20 by omega)]; simp
theorem lab_empty {s : ByteArray} (h2 : s.size < 1) : false = Lb.isLab s.data.toList := by
  have : s.data.toList = [] := List.eq_nil_of_length_eq_zero (by rw [size_len]; omega)
  rw [this]; rfl
theorem head_at {s : ByteArray} (h : 0 < s.size) : s.data.toList.head? = some s[0] := by
  rw [List.head?_eq_getElem?, List.getElem?_eq_getElem (by rw [size_len]; exact h)]; rfl
theorem lab_minus {s : ByteArray} (h : (s.toList == [42]) = false) (h0 : 0 < s.size) (h2 : ((s.size : Int) < 1 ∨ 20 < (s.size : Int)) ∨ (((s[0]'h0).toNat : Int) == 45) = true) : false = Lb.isLab s.data.toList := by
  rcases h2 with (h2 | h2) | h2
  · exact lab_empty (by omega)
  · exact lab_long h (by omega)
  · have h3 : s[0] = 45 := by
      rw [← UInt8.toNat_inj]
      have := beq_iff_eq.1 h2
      simp; omega
    rw [star_eq] at h
    unfold Lb.isLab
    rw [h, head_at h0, h3]; simp
theorem cutset_okc (c : UInt8) : cutset.data.toList.contains c = Lb.okc c := by
  rw [Bool.eq_iff_iff]
  simp [cutset, Lb.okc, UInt8.le_iff_toNat_le, ← UInt8.toNat_inj]
  omega
theorem trim_all {l : List UInt8} (h : l.all Lb.okc = true) : Lib.trimS l cutset.data.toList = [] := by
  have e : ∀ m : List UInt8, m.all Lb.okc = true → m.dropWhile (cutset.data.toList.contains ·) = [] := by
    intro m hm
    simp only [cutset_okc]
    induction m with
    | nil => rfl
    | cons c m ih =>
      rw [List.all_cons, Bool.and_eq_true] at hm
      rw [List.dropWhile_cons, if_pos hm.1, ih hm.2]
  unfold Lib.trimS Lib.trimRightS Lib.trimLeftS
  rw [e l.reverse (by rw [List.all_reverse]; exact h)]
  rfl
theorem lab_mid {s : ByteArray} (h : (s.toList == [42]) = false) (h0 : 0 < s.size) (h2 : (1 ≤ (s.size : Int) ∧ (s.size : Int) ≤ 20) ∧ (((s[0]'h0).toNat : Int) == 45) = false) : Lb.isLab s.data.toList = s.data.toList.all Lb.okc := by
  have h3 : s[0] ≠ 45 := by
    intro e
    have := beq_eq_false_iff_ne.1 h2.2
    rw [e] at this
    exact this (by decide)
  rw [star_eq] at h
  unfold Lb.isLab
  rw [h, size_len, head_at h0, decide_eq_true (show 1 ≤ s.size by omega), decide_eq_true (show s.size ≤ 20 by omega)]
  simp [h3]
theorem lab_all {s : ByteArray} (h : (s.toList == [42]) = false) (h0 : 0 < s.size) (h2 : (1 ≤ (s.size : Int) ∧ (s.size : Int) ≤ 20) ∧ (((s[0]'h0).toNat : Int) == 45) = false) : s.data.all Lb.okc 0 s.size = Lb.isLab s.data.toList := by
  rw [lab_mid h h0 h2]; simp
theorem lab_trim {s : ByteArray} (h0 : 0 < s.size) (h3 : ¬ Lib.trimS s.data.toList cutset.data.toList = []) (h : (s.toList == [42]) = false) (h2 : (1 ≤ (s.size : Int) ∧ (s.size : Int) ≤ 20) ∧ (((s[0]'h0).toNat : Int) == 45) = false) : false = Lb.isLab s.data.toList := by
  rw [lab_mid h h0 h2]
  cases hc : s.data.toList.all Lb.okc with
  | false => rfl
  | true => exact absurd (trim_all hc) h3

set_option maxHeartbeats 800000 in
theorem isLabel_any (s : ByteArray) (w : World) (hs : s.size ≤ 9223372036854775807) :
    Calls Tryz.prog 42 #[.string s] w fun e w' => e = .returned (.bool (Lb.isLab s.data.toList)) ∧ Below w.heap.size w w' := by
  go_enter Tryz.func42, Tryz.ntmps42
  go_wp2_with (first | (go_at_call 87; refine (trim_any _ _ hs).mono ?_; rintro e w1 ⟨rfl, hB1⟩) | (go_at_call 88; refine (contains_bad _ _).mono ?_; rintro e w2 ⟨rfl, hB2⟩))
  · go_ret; exact ⟨ret_bool (lab_star (by assumption)), Below.refl _ _⟩
  · go_ret; exact ⟨ret_bool (lab_minus (by assumption) (by assumption) (by assumption)), Below.refl _ _⟩
  · go_ret; exact ⟨ret_bool (lab_all (by assumption) (by assumption) (by assumption)), hB1.trans (hB2.mono hB1.size)⟩
  · go_ret; exact ⟨ret_bool (lab_trim (by assumption) (by assumption) (by assumption) (by assumption)), hB1⟩
  · go_ret; exact ⟨ret_bool (lab_long (by assumption) (by omega)), Below.refl _ _⟩
  · go_ret; exact ⟨ret_bool (lab_empty (by omega)), Below.refl _ _⟩
end Go.Proofs.YtajllcbjgndcpaaGreatDoor
