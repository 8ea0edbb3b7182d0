/- WALKS: Labels, Parent, Under. -/
import Derived.Test.YtajllcbjgndcpaaGreatDoorW6
import Derived.WalkSmall
namespace Go.Proofs.YtajllcbjgndcpaaGreatDoor
open Go.RowKit

theorem fit_size {s : ByteArray} (h : Lb.Fit s.data.toList) : s.size ≤ 80 := by have := h.len; rwa [size_len] at this

set_option maxHeartbeats 800000 in
theorem labels_bad (s : ByteArray) (w : World) (henv : Env w) (h : ¬ Lb.check s.data.toList = 0) :
    Calls Tryz.prog 43 #[.string s] w fun e w' => e = .returned (.tuple #[.slice none 0 0, .int .i64 (Lb.check s.data.toList)]) ∧ Below w.heap.size w w' := by
  have hb : (Lb.check s.data.toList == 0) = false := beq_eq_false_iff_ne.2 h
  clear h
  generalize hc : Lb.check s.data.toList = c at *
  have Hc := Lib.hid hc
  clear hc
  go_enter Tryz.func43, Tryz.ntmps43
  go_wp2_with (go_at_call 15; refine (check_any _ _ henv).mono ?_; rw [Hc.out]; rintro e w1 ⟨rfl, hB⟩)
  go_ret2
  exact ⟨rfl, hB⟩
set_option maxHeartbeats 800000 in
theorem labels_fit (s : ByteArray) (w : World) (henv : Env w) (h : Lb.Fit s.data.toList) :
    Calls Tryz.prog 43 #[.string s] w fun e w' => ∃ v, e = .returned (.tuple #[v, .int .i64 0]) ∧ OwnStrs w.heap.size w' v (Lb.split s.data.toList) ∧ Below w.heap.size w w' := by
  have hsz := fit_size h
  have hc := Lib.hid (Lb.check_fit.2 h)
  go_enter Tryz.func43, Tryz.ntmps43
  go_wp2_with (go_at_call 15; refine (check_any _ _ henv).mono ?_; rw [hc.out]; rintro e w1 ⟨rfl, hB⟩)
  refine (split_any _ _ (henv.later hB) (by omega)).mono ?_
  rintro e w2 ⟨v, rfl, hO, hB2⟩
  go_wp2
  go_ret2
  exact ⟨v, rfl, hO.mono hB.size, hB.trans (hB2.mono hB.size)⟩

/-- slices.Equal at lists of strings. -/
theorem equal_any (v1 v2 : Value) (l m : List Lb.Bs) (w : World) (h1 : Strs w v1 l) (h2 : Strs w v2 m) :
    Calls Tryz.prog 68 #[v1, v2] w fun e w' => e = .returned (.bool (decide (l = m))) ∧ ∃ q, w' = w.drewN q := by
  obtain ⟨a, c, rfl, hc, hm, hh⟩ := h1
  obtain ⟨a2, c2, rfl, hc2, hm2, hh2⟩ := h2
  unfold maxLen at hm hm2
  by_cases hl : l.length = m.length
  · by_cases hn : l = []
    · subst hn
      have : m = [] := List.eq_nil_of_length_eq_zero (by simpa using hl.symm)
      subst this
      exact (Tryz.slices_Equal_string_empty a a2 c 0 c2 w (by omega)).mono fun e w' ⟨he, hw⟩ => ⟨by rw [he]; simp, 0, hw⟩
    · have hn2 : m ≠ [] := by intro e; subst e; exact hn (List.eq_nil_of_length_eq_zero (by simpa using hl))
      obtain ⟨b, o, rfl, hb, hcell⟩ := hh hn
      obtain ⟨b2, o2, rfl, hb2, hcell2⟩ := hh2 hn2
      have key : ∀ (l : List Lb.Bs) b o, (∀ j x, l[j]? = some x → w.cell? ⟨b, o + j, none⟩ = some (.string ⟨x.toArray⟩)) →
          ∀ j, j < (l.map fun x => (⟨x.toArray⟩ : ByteArray)).length → w.cell? ⟨b, o + j, none⟩ = some (.string ((l.map fun x => (⟨x.toArray⟩ : ByteArray)).getD j ByteArray.empty)) := by
        intro l b o h j hj
        rw [List.length_map] at hj
        rw [h j l[j] (List.getElem?_eq_getElem hj)]
        simp [List.getD, hj]
      have hE := Tryz.slices_Equal_string b o l.length c b2 o2 m.length c2 (l.map fun x => ⟨x.toArray⟩) (m.map fun x => ⟨x.toArray⟩) w (by simp) (by simp) (by omega) (by omega) (key l b o hcell) (key m b2 o2 hcell2)
      refine hE.mono fun e w' ⟨he, hw⟩ => ⟨?_, hw⟩
      rw [he]
      apply ret_bool
      rw [List.take_of_length_le (by simp), List.take_of_length_le (by simp)]
      rw [decide_eq_decide]
      constructor
      · intro h
        have := congrArg (List.map (·.data.toList)) h
        rw [List.map_map, List.map_map] at this
        exact (List.map_id' l).symm.trans (this.trans (List.map_id' m))
      · rintro rfl; rfl
  · refine (Tryz.slices_Equal_string_lens a a2 l.length c m.length c2 w hl).mono fun e w' ⟨he, hw⟩ => ⟨?_, 0, hw⟩
    rw [he]
    apply ret_bool
    rw [eq_comm, decide_eq_false_iff_not]
    intro e; exact hl (by rw [e])

theorem add_at (b o k : Nat) : (⟨b, o, none⟩ : Addr).add k = ⟨b, o + k, none⟩ := by unfold Addr.add; split <;> simp_all
theorem Strs.drop {w : World} {a : Option Addr} {cap : Nat} {l : List Lb.Bs} (h : Strs w (.slice a l.length cap) l) {k : Nat} (hk : k ≤ l.length) :
    (cap = k → Strs w (.slice a (l.length - k) 0) (l.drop k)) ∧ (¬ cap = k → Strs w (.slice (a.map fun x => x.add k) (l.length - k) (cap - k)) (l.drop k)) := by
  obtain ⟨a', cap', h1, h2, h3, h4⟩ := h
  injection h1 with e1 _ e3
  subst e1 e3
  constructor
  · intro e
    have : k = l.length := by omega
    subst this
    rw [List.drop_length, Nat.sub_self]
    exact ⟨a, 0, rfl, Nat.le_refl _, by unfold maxLen; omega, fun h => absurd rfl h⟩
  · intro e
    refine ⟨_, _, by rw [List.length_drop], by rw [List.length_drop]; omega, by omega, fun hn => ?_⟩
    have hne : l ≠ [] := by rintro rfl; simp at hn
    obtain ⟨b, o, rfl, hb, hc⟩ := h4 hne
    refine ⟨b, o + k, by simp [add_at], hb, fun j x hx => ?_⟩
    rw [List.getElem?_drop] at hx
    rw [Nat.add_assoc]
    exact hc _ x hx
theorem suffix_drop {l m : List Lb.Bs} (h : m.length ≤ l.length) : decide (l.drop (l.length - m.length) = m) = m.isSuffixOf l := by
  rw [Bool.eq_iff_iff, decide_eq_true_iff, List.isSuffixOf_iff_suffix]
  constructor
  · intro e
    rw [← e]; exact List.drop_suffix _ _
  · rintro ⟨t, rfl⟩
    simp
theorem suffix_long {l m : List Lb.Bs} (h : ¬ m.length ≤ l.length) : false = m.isSuffixOf l := by
  cases hs : m.isSuffixOf l with
  | false => rfl
  | true => exact absurd (List.isSuffixOf_iff_suffix.1 hs).length_le h

set_option maxHeartbeats 800000 in
theorem under_bad1 (s t : ByteArray) (w : World) (henv : Env w) (h : ¬ Lb.check s.data.toList = 0) :
    Calls Tryz.prog 30 #[.string s, .string t] w fun e w' => e = .returned (.tuple #[.bool false, .int .i64 (Lb.check s.data.toList)]) ∧ Below w.heap.size w w' := by
  have hL := labels_bad s w henv h
  have hb : (Lb.check s.data.toList == 0) = false := beq_eq_false_iff_ne.2 h
  clear h
  generalize Lb.check s.data.toList = c at *
  have HL := Lib.hid hL
  clear hL
  go_enter Tryz.func30, Tryz.ntmps30
  go_wp2_with (go_at_call 43; refine HL.out.mono ?_; rintro e w1 ⟨rfl, hB⟩)
  go_ret2
  exact ⟨rfl, hB⟩
set_option maxHeartbeats 800000 in
theorem under_bad2 (s t : ByteArray) (w : World) (henv : Env w) (h1 : Lb.Fit s.data.toList) (h : ¬ Lb.check t.data.toList = 0) :
    Calls Tryz.prog 30 #[.string s, .string t] w fun e w' => e = .returned (.tuple #[.bool false, .int .i64 (Lb.check t.data.toList)]) ∧ Below w.heap.size w w' := by
  have hL := fun w henv => labels_bad t w henv h
  have hb : (Lb.check t.data.toList == 0) = false := beq_eq_false_iff_ne.2 h
  clear h
  generalize Lb.check t.data.toList = c at *
  have HL := Lib.hid hL
  clear hL
  have H1 := Lib.hid (labels_fit s w henv h1)
  clear h1
  go_enter Tryz.func30, Tryz.ntmps30
  go_wp2_with fail
  refine H1.out.mono ?_; rintro e w1 ⟨v, rfl, hO, hB⟩
  go_wp2_with fail
  refine (HL.out _ (henv.later hB)).mono ?_; rintro e w2 ⟨rfl, hB2⟩
  go_wp2
  go_ret2
  exact ⟨rfl, hB.trans (hB2.mono hB.size)⟩
set_option maxHeartbeats 800000 in
theorem under_fit (s t : ByteArray) (w : World) (henv : Env w) (h1 : Lb.Fit s.data.toList) (h2 : Lb.Fit t.data.toList) :
    Calls Tryz.prog 30 #[.string s, .string t] w fun e w' => e = .returned (.tuple #[.bool (Lb.under s.data.toList t.data.toList), .int .i64 0]) ∧ Below w.heap.size w w' := by
  have H1 := Lib.hid (labels_fit s w henv h1)
  have H2 := Lib.hid fun w henv => labels_fit t w henv h2
  have hm1 := h1.many
  have hm2 := h2.many
  clear h1 h2
  go_enter Tryz.func30, Tryz.ntmps30
  go_wp2_with fail
  refine H1.out.mono ?_; rintro e w1 ⟨v, rfl, hO, hB⟩
  go_wp2_with fail
  refine (H2.out _ (henv.later hB)).mono ?_; rintro e w2 ⟨v2, rfl, hO2, hB2⟩
  have hS := hO.strs.later hB2
  have hS2 := hO2.strs
  have hun : Lb.under s.data.toList t.data.toList = (Lb.split t.data.toList).isSuffixOf (Lb.split s.data.toList) := rfl
  generalize Lb.split s.data.toList = l at *
  generalize Lb.split t.data.toList = m at *
  have Hun := Lib.hid hun
  clear hun hO hO2
  obtain ⟨a, cap, rfl, hcap, hm, hcell⟩ := id hS
  obtain ⟨a2, cap2, rfl, hcap2, hmm2, hcell2⟩ := id hS2
  clear hcell hcell2
  unfold maxLen at hm hmm2
  by_cases hlm : m.length ≤ l.length
  · have hD := hS.drop (show l.length - m.length ≤ l.length by omega)
    obtain ⟨hD1, hD2⟩ := hD
    have HD1 := Lib.hid hD1
    have HD2 := Lib.hid hD2
    clear hD1 hD2 hS
    go_wp2_with fail
    · refine (equal_any _ _ (l.drop (l.length - m.length)) m _ (HD1.out (by assumption)) hS2).mono ?_
      rintro e w3 ⟨rfl, q, rfl⟩
      go_wp2
      go_ret2
      exact ⟨by rw [Hun.out, suffix_drop hlm]; rfl, hB.trans ((below_drewN' hB2 q).mono hB.size)⟩
    · refine (equal_any _ _ (l.drop (l.length - m.length)) m _ (HD2.out (by assumption)) hS2).mono ?_
      rintro e w3 ⟨rfl, q, rfl⟩
      go_wp2
      go_ret2
      exact ⟨by rw [Hun.out, suffix_drop hlm]; rfl, hB.trans ((below_drewN' hB2 q).mono hB.size)⟩
  · go_wp2
    go_ret2
    exact ⟨by rw [Hun.out, ← suffix_long hlm]; rfl, hB.trans (hB2.mono hB.size)⟩
end Go.Proofs.YtajllcbjgndcpaaGreatDoor
