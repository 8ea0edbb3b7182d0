/- WALKS: split, join. -/
import Derived.Test.YtajllcbjgndcpaaGreatDoorW4
import Derived.Lib.Hide
namespace Go.Proofs.YtajllcbjgndcpaaGreatDoor
open Go.RowKit

theorem libSplit_any (s : ByteArray) (w : World) (henv : Env w) (hs : s.size < 4294967281) :
    Calls Tryz.prog 85 #[.string s, .string ⟨#[46]⟩] w fun e w' => ∃ v, e = .returned v ∧ OwnStrs w.heap.size w' v (Lb.cut s.data.toList) ∧ Below w.heap.size w w' := by
  obtain ⟨m, hm⟩ := henv
  refine (Tryz.strings_Split s ⟨#[46]⟩ m w hs hm (by decide)).mono fun e w' ⟨he, hw⟩ => ⟨_, he, ?_, ?_⟩
  · subst hw
    rw [cut_count, splitB_cells]
    have hl := Lib.count_le s.data.toList [46]
    have hl2 := cut_count s
    refine .inr ⟨Lb.cut_ne _, ?_, w.heap.size, rfl, Nat.le_refl _, heap_alloc_new _ _⟩
    have h3 := size_len s
    have h4 : Lib.countB s ⟨#[46]⟩ = Lib.count s.data.toList [46] := rfl
    unfold maxLen; omega
  · subst hw
    exact (Below.refl _ w).alloc (Nat.le_refl _) _

theorem dropDot_len (l : List UInt8) : (Lb.dropDot l).length ≤ l.length := by unfold Lb.dropDot; split <;> simp
theorem data_of (l : List UInt8) : (⟨l.toArray⟩ : ByteArray).data.toList = l := rfl
theorem size_of (l : List UInt8) : (⟨l.toArray⟩ : ByteArray).size = l.length := by simp [ByteArray.size]

set_option maxHeartbeats 800000 in
theorem split_any (s : ByteArray) (w : World) (henv : Env w) (hs : s.size ≤ 4294967280) :
    Calls Tryz.prog 41 #[.string s] w fun e w' => ∃ v, e = .returned v ∧ OwnStrs w.heap.size w' v (Lb.split s.data.toList) ∧ Below w.heap.size w w' := by
  have hsz : ByteArray.size ⟨(Lib.trimSuffix s.data.toList [46]).toArray⟩ < 4294967281 := by
    rw [size_of, trimDot]
    have := dropDot_len s.data.toList
    rw [size_len] at this
    omega
  go_enter Tryz.func41, Tryz.ntmps41
  go_wp2_with (first | (go_at_call 86; refine (Tryz.strings_TrimSuffix _ _ _ (by omega)).mono ?_; rintro e w1 ⟨rfl, rfl⟩) | (go_at_call 85; refine (libSplit_any _ _ henv hsz).mono ?_; rintro e w2 ⟨v, rfl, hO, hB⟩))
  · go_ret
    refine ⟨_, rfl, .inl ⟨?_, rfl⟩, Below.refl _ _⟩
    rw [← ByteArray.toList_eq]; unfold Lb.split; rw [if_pos (.inl (by assumption))]
  · go_ret
    refine ⟨_, rfl, .inl ⟨?_, rfl⟩, Below.refl _ _⟩
    have h : (s.toList == [46]) = true ∨ s.toList.isEmpty = true := by assumption
    rw [← ByteArray.toList_eq]; unfold Lb.split; rw [if_pos (by simpa using h)]
  · have h : (s.toList == [46]) = false ∧ s.toList.isEmpty = false := by assumption
    have e : Lb.split s.data.toList = Lb.cut (Lb.dropDot s.data.toList) := by
      rw [← ByteArray.toList_eq]; unfold Lb.split; rw [if_neg (by simpa using h)]
    rw [data_of, trimDot, ← e] at hO
    go_ret
    exact ⟨_, rfl, hO, hB⟩

theorem join_flat (l : List Lb.Bs) (h : l ≠ []) : Lib.join l [46] ++ [46] = Lb.join l := by
  unfold Lb.join
  rw [if_neg h]
  induction l with
  | nil => exact absurd rfl h
  | cons x r ih =>
    cases r with
    | nil => simp [Lib.join_one]
    | cons y r =>
      have := ih (by simp)
      rw [Lib.join_cons] at this ⊢
      rw [List.flatMap_cons, ← this]
      simp [Lib.joinTail]

theorem join_ge (l : List Lb.Bs) (hl : l ≠ []) : l.length ≤ (Lb.join l).length := by
  unfold Lb.join; rw [if_neg hl]
  clear hl
  induction l with
  | nil => simp
  | cons x r ih => simp at ih ⊢; omega

set_option maxHeartbeats 800000 in
theorem join_any (v : Value) (l : List Lb.Bs) (w : World) (h : Strs w v l) (hlen : (Lb.join l).length ≤ 140737488355328) :
    Calls Tryz.prog 44 #[v] w fun e w' => e = .returned (.string ⟨(Lb.join l).toArray⟩) ∧ Below w.heap.size w w' := by
  obtain ⟨a, cap, rfl, hcap, hm, hcell⟩ := h
  by_cases hl : l = []
  · subst hl
    go_enter Tryz.func44, Tryz.ntmps44
    go_wp2
    go_ret
    exact ⟨rfl, Below.refl _ _⟩
  · obtain ⟨b, o, rfl, hb, hc⟩ := hcell hl
    have hf := join_flat l hl
    have hlen2 : (Lib.join l [46]).length + 1 = (Lb.join l).length := by rw [← hf]; simp
    have hll := join_ge l hl
    have emap : (l.map fun x => (⟨x.toArray⟩ : ByteArray)).map (·.data.toList) = l := by rw [List.map_map]; exact List.map_id' l
    have hJ := Tryz.strings_Join b o cap (l.map fun x => ⟨x.toArray⟩) ⟨#[46]⟩ w (by
      intro j x hx
      rw [List.getElem?_map, Option.map_eq_some_iff] at hx
      obtain ⟨y, hy, rfl⟩ := hx
      exact hc j y hy) hb (by rw [List.length_map]; omega) (by rw [List.length_map]; omega) (by rw [emap]; show (Lib.join l [46]).length ≤ _; omega)
    rw [List.length_map, emap] at hJ
    have hlen3 : (Lib.join l [46]).length + 1 ≤ 9223372036854775807 := by omega
    have Hf := Lib.hid hf
    clear hf hlen2 emap
    have hne : ((l.length : Int) == 0) = false := by
      rw [beq_eq_false_iff_ne]; have := List.length_pos_iff.2 hl; omega
    have hJ2 := Lib.hid hJ
    clear hJ
    go_enter Tryz.func44, Tryz.ntmps44
    go_wp2_with (go_at_call 90; refine hJ2.out.mono ?_; rintro e w1 ⟨rfl, hB⟩)
    go_ret
    refine ⟨?_, hB⟩
    rw [← Hf.out]
    exact congrArg (fun b => Ending.returned (.string b)) (ByteArray.ext (by simp))
end Go.Proofs.YtajllcbjgndcpaaGreatDoor
