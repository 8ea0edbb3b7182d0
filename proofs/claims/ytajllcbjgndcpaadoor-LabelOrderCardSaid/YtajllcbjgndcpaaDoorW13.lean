/- WALKS: LabelAbove, LabelOrder. -/
import Derived.Test.YtajllcbjgndcpaaDoorW12
namespace Go.Proofs.YtajllcbjgndcpaaDoor
open Go.RowKit

theorem parent_root_or {s : ByteArray} {w : World} (henv : Env w) (h : ¬ (Lb.check s.data.toList = 0 ∧ Lb.split s.data.toList ≠ [])) :
    ∃ c : Int, (c == 0) = false ∧ Calls Tryd.prog 16 #[.string s] w fun e w' => e = .returned (.tuple #[.string ⟨#[]⟩, .int .i64 c]) ∧ Below w.heap.size w w' := by
  by_cases hc : Lb.check s.data.toList = 0
  · have hn : Lb.split s.data.toList = [] := by
      cases hs : Lb.split s.data.toList with
      | nil => rfl
      | cons x r => exact absurd ⟨hc, by rw [hs]; simp⟩ h
    exact ⟨4, by decide, parent_root s w henv (Lb.check_fit.1 hc) hn⟩
  · exact ⟨_, beq_eq_false_iff_ne.2 hc, parent_bad s w henv hc⟩

set_option maxHeartbeats 1600000 in
theorem labelAbove_any (s t : ByteArray) (w : World) (henv : Env w) :
    Calls Tryd.prog 5 #[.string s, .string t] w fun e w' => e = .returned (.bool true) ∧ Below w.heap.size w w' := by
  by_cases hs : Lb.check s.data.toList = 0 ∧ Lb.split s.data.toList ≠ []
  · obtain ⟨hc, hn⟩ := hs
    have hF := Lb.check_fit.1 hc
    have HP := Lib.hid (parent_fit s w henv hF hn)
    by_cases ht : Lb.check t.data.toList = 0
    · have hT := Lb.check_fit.1 ht
      obtain ⟨x, r, hxr⟩ : ∃ x r, Lb.split s.data.toList = x :: r := by
        cases hsp : Lb.split s.data.toList with
        | nil => exact absurd hsp hn
        | cons x r => exact ⟨x, r, rfl⟩
      obtain ⟨f1, f2, f3⟩ := Lb.above_law hF hT hxr
      have htail : (Lb.split s.data.toList).tail = r := by rw [hxr]; rfl
      rw [htail] at HP
      have U1 := fun w henv => Lib.hid (under_fit s ⟨(Lb.join r).toArray⟩ w henv hF f1)
      have U2 := fun w henv => Lib.hid (under_fit s t w henv hF hT)
      have U3 := fun w henv => Lib.hid (under_fit ⟨(Lb.join r).toArray⟩ t w henv f1 hT)
      have hcheck := fun w henv => Lib.hid (check_any t w henv)
      rw [ht] at hcheck
      rw [data_of, f2] at U1
      rw [data_of] at U3
      have hne : (s.toList == t.toList) = true ∨ Lb.under s.data.toList t.data.toList = Lb.under (Lb.join r) t.data.toList := by
        rcases f3 with e | e
        · left; rw [ByteArray.toList_eq, ByteArray.toList_eq, e]; simp
        · exact .inr e
      have Hne := Lib.hid hne
      have HU1 := Lib.hid U1
      have HU2 := Lib.hid U2
      have HU3 := Lib.hid U3
      have HC := Lib.hid hcheck
      clear hc hn hF ht hT hxr f1 f2 f3 htail U1 U2 U3 hcheck hne
      generalize Lb.under s.data.toList t.data.toList = u2 at *
      generalize Lb.under (Lb.join r) t.data.toList = u3 at *
      go_enter Tryd.func5, Tryd.ntmps5
      go_wp2_with fail
      refine HP.out.mono ?_
      rintro e w1 ⟨rfl, hB1⟩
      go_wp2_with fail
      refine (HC.out _ (henv.later hB1)).out.mono ?_
      rintro e w2 ⟨rfl, hB2⟩
      have hA2 := hB1.trans (hB2.mono hB1.size)
      go_wp2_with fail
      refine (HU1.out _ (henv.later hA2)).out.mono ?_
      rintro e w3 ⟨rfl, hB3⟩
      have hA3 := hA2.trans (hB3.mono hA2.size)
      go_wp2_with fail
      refine (HU2.out _ (henv.later hA3)).out.mono ?_
      rintro e w4 ⟨rfl, hB4⟩
      have hA4 := hA3.trans (hB4.mono hA3.size)
      go_wp2_with fail
      refine (HU3.out _ (henv.later hA4)).out.mono ?_
      rintro e w5 ⟨rfl, hB5⟩
      have hA5 := hA4.trans (hB5.mono hA4.size)
      go_wp2_with fail
      refine (labelFact_any _ (henv.later hA5)).mono ?_
      rintro e w6 ⟨rfl, hB6⟩
      have hA6 := hA5.trans (hB6.mono hA5.size)
      rcases Hne.out with hne | hne
      · go_wp2
        go_ret
        exact ⟨rfl, hA6⟩
      · subst hne
        go_wp2
        all_goals go_ret
        all_goals exact ⟨by simp, hA6⟩
    · have hcheck := fun w henv => Lib.hid (check_any t w henv)
      have hb : (Lb.check t.data.toList == 0) = false := beq_eq_false_iff_ne.2 ht
      have HC := Lib.hid hcheck
      clear hc hn hF ht hcheck
      generalize Lb.check t.data.toList = ct at *
      go_enter Tryd.func5, Tryd.ntmps5
      go_wp2_with fail
      refine HP.out.mono ?_
      rintro e w1 ⟨rfl, hB1⟩
      go_wp2_with fail
      refine (HC.out _ (henv.later hB1)).out.mono ?_
      rintro e w2 ⟨rfl, hB2⟩
      have hA2 := hB1.trans (hB2.mono hB1.size)
      go_wp2_with fail
      refine (labelFact_any _ (henv.later hA2)).mono ?_
      rintro e w6 ⟨rfl, hB6⟩
      go_wp2
      go_ret
      exact ⟨rfl, hA2.trans (hB6.mono hA2.size)⟩
  · obtain ⟨c, hc, hP⟩ := parent_root_or henv hs
    have hc2 : (c != 0) = true := by rw [bne, hc]; rfl
    have hc3 : ¬ c = 0 := beq_eq_false_iff_ne.1 hc
    have HP := Lib.hid hP
    clear hP hs
    go_enter Tryd.func5, Tryd.ntmps5
    go_wp2_with fail
    refine HP.out.mono ?_
    rintro e w1 ⟨rfl, hB1⟩
    go_wp2_with fail
    refine (labelFact_any _ (henv.later hB1)).mono ?_
    rintro e w6 ⟨rfl, hB6⟩
    go_wp2
    go_ret
    exact ⟨rfl, hB1.trans (hB6.mono hB1.size)⟩

theorem neg_of {x y : Int} (h : y = -1 ∨ y = 0 ∨ y = 1) (e : x = -y) : x = -1 ∧ y = 1 ∨ x = 0 ∧ y = 0 ∨ x = 1 ∧ y = -1 := by omega
theorem compare_range (a b : Lb.Bs) : Lb.compare a b = -1 ∨ Lb.compare a b = 0 ∨ Lb.compare a b = 1 := by unfold Lb.compare; exact Lb.cmpL_range _ _

set_option maxHeartbeats 3200000 in
theorem order_fit (s t u : ByteArray) (w : World) (henv : Env w) (hs : Lb.check s.data.toList = 0) (ht : Lb.check t.data.toList = 0) (hu : Lb.check u.data.toList = 0) :
    Calls Tryd.prog 9 #[.string s, .string t, .string u] w fun e w' => e = .returned (.bool true) ∧ Below w.heap.size w w' := by
  have hS := Lb.check_fit.1 hs
  have hT := Lb.check_fit.1 ht
  have hU := Lb.check_fit.1 hu
  obtain ⟨f1, f2, f3, f4⟩ := Lb.order_law hS hT hU
  have r2 := compare_range t.data.toList s.data.toList
  have C1 := fun w henv => Lib.hid (check_any s w henv)
  have C2 := fun w henv => Lib.hid (check_any t w henv)
  have C3 := fun w henv => Lib.hid (check_any u w henv)
  rw [hs] at C1
  rw [ht] at C2
  rw [hu] at C3
  have X1 := fun w henv => Lib.hid (compare_fit s t w henv hS hT)
  have X2 := fun w henv => Lib.hid (compare_fit t s w henv hT hS)
  have X3 := fun w henv => Lib.hid (compare_fit t u w henv hT hU)
  have X4 := fun w henv => Lib.hid (compare_fit s u w henv hS hU)
  have X5 := fun w henv => Lib.hid (under_fit t s w henv hT hS)
  have hst : (s.toList == t.toList) = decide (Lb.compare s.data.toList t.data.toList = 0) := by
    rw [ByteArray.toList_eq, ByteArray.toList_eq, Bool.eq_iff_iff, decide_eq_true_iff, beq_iff_eq]
    exact f2.symm
  clear hs ht hu hS hT hU f2
  generalize Lb.compare s.data.toList t.data.toList = x at *
  generalize Lb.compare t.data.toList s.data.toList = y at *
  generalize Lb.compare t.data.toList u.data.toList = z at *
  generalize Lb.compare s.data.toList u.data.toList = q at *
  generalize Lb.under t.data.toList s.data.toList = un at *
  have HC1 := Lib.hid C1
  have HC2 := Lib.hid C2
  have HC3 := Lib.hid C3
  have HX1 := Lib.hid X1
  have HX2 := Lib.hid X2
  have HX3 := Lib.hid X3
  have HX4 := Lib.hid X4
  have HX5 := Lib.hid X5
  have Hxy := Lib.hid (neg_of r2 f1)
  have Hf3 := Lib.hid f3
  have Hf4 := Lib.hid f4
  have Hst := Lib.hid hst
  clear C1 C2 C3 X1 X2 X3 X4 X5 r2 f1 f3 f4 hst
  go_enter Tryd.func9, Tryd.ntmps9
  go_wp2_with fail
  refine (HC1.out _ henv).out.mono ?_
  rintro e w1 ⟨rfl, hA1⟩
  go_wp2_with fail
  refine (HC2.out _ (henv.later hA1)).out.mono ?_
  rintro e w2 ⟨rfl, hB2⟩
  have hA2 := hA1.trans (hB2.mono hA1.size)
  go_wp2_with fail
  refine (HC3.out _ (henv.later hA2)).out.mono ?_
  rintro e w3 ⟨rfl, hB3⟩
  have hA3 := hA2.trans (hB3.mono hA2.size)
  go_wp2_with fail
  refine (HX1.out _ (henv.later hA3)).out.mono ?_
  rintro e w4 ⟨rfl, hB4⟩
  have hA4 := hA3.trans (hB4.mono hA3.size)
  go_wp2_with fail
  refine (HX2.out _ (henv.later hA4)).out.mono ?_
  rintro e w5 ⟨rfl, hB5⟩
  have hA5 := hA4.trans (hB5.mono hA4.size)
  go_wp2_with fail
  refine (HX3.out _ (henv.later hA5)).out.mono ?_
  rintro e w6 ⟨rfl, hB6⟩
  have hA6 := hA5.trans (hB6.mono hA5.size)
  go_wp2_with fail
  refine (HX4.out _ (henv.later hA6)).out.mono ?_
  rintro e w7 ⟨rfl, hB7⟩
  have hA7 := hA6.trans (hB7.mono hA6.size)
  go_wp2_with fail
  refine (HX5.out _ (henv.later hA7)).out.mono ?_
  rintro e w8 ⟨rfl, hB8⟩
  have hA8 := hA7.trans (hB8.mono hA7.size)
  go_wp2_with fail
  refine (labelFact_any _ (henv.later hA8)).mono ?_
  rintro e w9 ⟨rfl, hB9⟩
  have hA9 := hA8.trans (hB9.mono hA8.size)
  have h3 := Hf3.out
  have h4 := Hf4.out
  have hst := Hst.out
  rcases Hxy.out with ⟨rfl, rfl⟩ | ⟨rfl, rfl⟩ | ⟨rfl, rfl⟩
  · have h3' : (decide (z > 0) || decide (q ≤ 0)) = true := by
      rcases h3 with h | h | h
      · omega
      · simp [h]
      · simp [h]
    have hst' : (s.toList == t.toList) = false := by rw [hst]; rfl
    clear h3 h4 hst
    go_wp2
    all_goals go_ret
    all_goals exact ⟨rfl, hA9⟩
  · have h3' : (decide (z > 0) || decide (q ≤ 0)) = true := by
      rcases h3 with h | h | h
      · omega
      · simp [h]
      · simp [h]
    have hst' : (s.toList == t.toList) = true := by rw [hst]; rfl
    clear h3 h4 hst
    go_wp2
    all_goals go_ret
    all_goals exact ⟨rfl, hA9⟩
  · have hun : un = false := by
      cases un with
      | false => rfl
      | true => have := h4 rfl; omega
    subst hun
    have hst' : (s.toList == t.toList) = false := by rw [hst]; rfl
    clear h3 h4 hst
    go_wp2
    all_goals go_ret
    all_goals exact ⟨rfl, hA9⟩

set_option maxHeartbeats 1600000 in
theorem order_bad1 (s t u : ByteArray) (w : World) (henv : Env w) (hs : ¬ Lb.check s.data.toList = 0) :
    Calls Tryd.prog 9 #[.string s, .string t, .string u] w fun e w' => e = .returned (.bool true) ∧ Below w.heap.size w w' := by
  have C1 := Lib.hid (check_any s w henv)
  have hc : (Lb.check s.data.toList == 0) = false := beq_eq_false_iff_ne.2 hs
  have hc2 : (Lb.check s.data.toList != 0) = true := by rw [bne, hc]; rfl
  generalize Lb.check s.data.toList = c at *
  go_enter Tryd.func9, Tryd.ntmps9
  go_wp2_with fail
  refine C1.out.mono ?_
  rintro e w1 ⟨rfl, hA1⟩
  go_wp2_with fail
  refine (labelFact_any _ (henv.later hA1)).mono ?_
  rintro e w6 ⟨rfl, hB6⟩
  go_wp2
  go_ret
  exact ⟨rfl, hA1.trans (hB6.mono hA1.size)⟩
set_option maxHeartbeats 1600000 in
theorem order_bad2 (s t u : ByteArray) (w : World) (henv : Env w) (h : Lb.check s.data.toList = 0) (hs : ¬ Lb.check t.data.toList = 0) :
    Calls Tryd.prog 9 #[.string s, .string t, .string u] w fun e w' => e = .returned (.bool true) ∧ Below w.heap.size w w' := by
  have C1 := check_any s w henv
  rw [h] at C1
  have C2 := fun w henv => Lib.hid (check_any t w henv)
  have hc : (Lb.check t.data.toList == 0) = false := beq_eq_false_iff_ne.2 hs
  have hc2 : (Lb.check t.data.toList != 0) = true := by rw [bne, hc]; rfl
  clear h
  generalize Lb.check t.data.toList = c at *
  have HC1 := Lib.hid C1
  have HC2 := Lib.hid C2
  clear C1 C2
  go_enter Tryd.func9, Tryd.ntmps9
  go_wp2_with fail
  refine HC1.out.mono ?_
  rintro e w1 ⟨rfl, hA1⟩
  go_wp2_with fail
  refine (HC2.out _ (henv.later hA1)).out.mono ?_
  rintro e w2 ⟨rfl, hB2⟩
  have hA2 := hA1.trans (hB2.mono hA1.size)
  go_wp2_with fail
  refine (labelFact_any _ (henv.later hA2)).mono ?_
  rintro e w6 ⟨rfl, hB6⟩
  go_wp2
  go_ret
  exact ⟨rfl, hA2.trans (hB6.mono hA2.size)⟩
set_option maxHeartbeats 1600000 in
theorem order_bad3 (s t u : ByteArray) (w : World) (henv : Env w) (h : Lb.check s.data.toList = 0) (h2 : Lb.check t.data.toList = 0) (hs : ¬ Lb.check u.data.toList = 0) :
    Calls Tryd.prog 9 #[.string s, .string t, .string u] w fun e w' => e = .returned (.bool true) ∧ Below w.heap.size w w' := by
  have C1 := check_any s w henv
  rw [h] at C1
  have C2 := fun w henv => Lib.hid (check_any t w henv)
  rw [h2] at C2
  have C3 := fun w henv => Lib.hid (check_any u w henv)
  have hc : (Lb.check u.data.toList == 0) = false := beq_eq_false_iff_ne.2 hs
  have hc2 : (Lb.check u.data.toList != 0) = true := by rw [bne, hc]; rfl
  clear h h2
  generalize Lb.check u.data.toList = c at *
  have HC1 := Lib.hid C1
  have HC2 := Lib.hid C2
  have HC3 := Lib.hid C3
  clear C1 C2 C3
  go_enter Tryd.func9, Tryd.ntmps9
  go_wp2_with fail
  refine HC1.out.mono ?_
  rintro e w1 ⟨rfl, hA1⟩
  go_wp2_with fail
  refine (HC2.out _ (henv.later hA1)).out.mono ?_
  rintro e w2 ⟨rfl, hB2⟩
  have hA2 := hA1.trans (hB2.mono hA1.size)
  go_wp2_with fail
  refine (HC3.out _ (henv.later hA2)).out.mono ?_
  rintro e w3 ⟨rfl, hB3⟩
  have hA3 := hA2.trans (hB3.mono hA2.size)
  go_wp2_with fail
  refine (labelFact_any _ (henv.later hA3)).mono ?_
  rintro e w6 ⟨rfl, hB6⟩
  go_wp2
  go_ret
  exact ⟨rfl, hA3.trans (hB6.mono hA3.size)⟩
theorem labelOrder_any (s t u : ByteArray) (w : World) (henv : Env w) :
    Calls Tryd.prog 9 #[.string s, .string t, .string u] w fun e w' => e = .returned (.bool true) ∧ Below w.heap.size w w' := by
  by_cases h1 : Lb.check s.data.toList = 0
  · by_cases h2 : Lb.check t.data.toList = 0
    · by_cases h3 : Lb.check u.data.toList = 0
      · exact order_fit s t u w henv h1 h2 h3
      · exact order_bad3 s t u w henv h1 h2 h3
    · exact order_bad2 s t u w henv h1 h2
  · exact order_bad1 s t u w henv h1
end Go.Proofs.YtajllcbjgndcpaaDoor
