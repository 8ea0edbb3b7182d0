/- Strings cut at dots: the library's words and ours; how lists of strings lie in memory. -/
import Derived.Test.YtajllcbjgndcpaaGreatDoorW3
namespace Go.Proofs.YtajllcbjgndcpaaGreatDoor
open Go.RowKit

theorem index_dot : ∀ s : List UInt8, (Lib.index s [46] = -1 ∧ (46 : UInt8) ∉ s) ∨ ∃ a b, s = a ++ 46 :: b ∧ (46 : UInt8) ∉ a ∧ Lib.index s [46] = a.length
  | [] => .inl ⟨rfl, by simp⟩
  | c :: s => by
    by_cases hc : c = 46
    · subst hc
      exact .inr ⟨[], s, rfl, by simp, by simp [Lib.index]⟩
    · have h1 : ([46] : List UInt8).isPrefixOf (c :: s) = false := by simp [List.isPrefixOf, Ne.symm hc]
      rcases index_dot s with ⟨h, h2⟩ | ⟨a, b, h, h2, h3⟩
      · left
        refine ⟨by unfold Lib.index; rw [h1, h]; rfl, ?_⟩
        intro hm
        rcases List.mem_cons.1 hm with e | e
        · exact hc e.symm
        · exact h2 e
      · right
        refine ⟨c :: a, b, by rw [h]; rfl, ?_, ?_⟩
        · intro hm
          rcases List.mem_cons.1 hm with e | e
          · exact hc e.symm
          · exact h2 e
        · unfold Lib.index
          rw [h1, h3]
          have : ((a.length : Int) == -1) = false := by rw [beq_eq_false_iff_ne]; omega
          simp [this]

theorem split_cut : ∀ (n : Nat) (s : List UInt8), s.length ≤ n → Lib.splitK [46] 0 (Lib.count s [46]) s = Lb.cut s := by
  intro n
  induction n with
  | zero =>
    intro s hs
    have : s = [] := List.eq_nil_of_length_eq_zero (by omega)
    subst this
    rfl
  | succ n ih =>
    intro s hs
    rcases index_dot s with ⟨h, h2⟩ | ⟨a, b, h, h2, h3⟩
    · rw [Lib.count_miss h, Lb.cut_one s h2]; rfl
    · have h4 := Lib.count_hit (sub := [46]) (by simp) h3
      have h5 : s.drop (a.length + ([46] : List UInt8).length) = b := by rw [h]; simp
      rw [h5] at h4
      rw [h4, Nat.add_comm 1]
      unfold Lib.splitK
      have : (Lib.index s [46] == -1) = false := by rw [h3, beq_eq_false_iff_ne]; omega
      rw [this, if_neg (by simp), h3, Int.toNat_natCast, h5, ih b (by rw [h] at hs; simp at hs; omega)]
      rw [h, Lb.cut_more a b h2]
      simp
theorem split_bytes (s : ByteArray) : (Lib.splitB ⟨#[46]⟩ 0 (Lib.countB s ⟨#[46]⟩) s).map (·.data.toList) = Lb.cut s.data.toList := by
  rw [Lib.splitB_data]
  exact split_cut _ _ (Nat.le_refl _)
theorem bs_back (s : ByteArray) : (⟨s.data.toList.toArray⟩ : ByteArray) = s := by simp
theorem splitB_cells (s : ByteArray) : (Lib.splitB ⟨#[46]⟩ 0 (Lib.countB s ⟨#[46]⟩) s).map Value.string = (Lb.cut s.data.toList).map fun x => Value.string ⟨x.toArray⟩ := by
  rw [← split_bytes, List.map_map]
  exact List.map_congr_left fun x _ => by simp
theorem cut_count (s : ByteArray) : Lib.countB s ⟨#[46]⟩ + 1 = (Lb.cut s.data.toList).length := by
  suffices h : ∀ (n : Nat) (s : List UInt8), s.length ≤ n → Lib.count s [46] + 1 = (Lb.cut s).length from h _ _ (Nat.le_refl _)
  intro n
  induction n with
  | zero =>
    intro s hs
    have : s = [] := List.eq_nil_of_length_eq_zero (by omega)
    subst this
    rfl
  | succ n ih =>
    intro s hs
    rcases index_dot s with ⟨h, h2⟩ | ⟨a, b, h, h2, h3⟩
    · rw [Lib.count_miss h, Lb.cut_one s h2]; rfl
    · have h4 := Lib.count_hit (sub := [46]) (by simp) h3
      have h5 : s.drop (a.length + ([46] : List UInt8).length) = b := by rw [h]; simp
      rw [h5] at h4
      have := ih b (by rw [h] at hs; simp at hs; omega)
      rw [h4, h, Lb.cut_more a b h2, List.length_cons]
      omega
theorem dot_end (m : List UInt8) (c : UInt8) : ([46] : List UInt8).isSuffixOf (m ++ [c]) = decide (c = 46) := by
  by_cases hc : c = 46
  · subst hc; simp [List.isSuffixOf, List.isPrefixOf]
  · simp [List.isSuffixOf, List.isPrefixOf, hc, Ne.symm hc]
theorem trimDot (s : ByteArray) : Lib.trimSuffix s.data.toList [46] = Lb.dropDot s.data.toList := by
  unfold Lib.trimSuffix Lib.hasSuffix Lb.dropDot
  generalize s.data.toList = l
  rcases List.eq_nil_or_concat l with rfl | ⟨m, c, rfl⟩
  · rfl
  · rw [List.concat_eq_append, dot_end]
    by_cases hc : c = 46
    · subst hc; simp
    · simp [hc]
theorem hasDot (s : ByteArray) : Lib.hasSuffix s.data.toList [46] = decide (s.data.toList.getLast? = some 46) := by
  unfold Lib.hasSuffix
  generalize s.data.toList = l
  rcases List.eq_nil_or_concat l with rfl | ⟨m, c, rfl⟩
  · rfl
  · rw [List.concat_eq_append, dot_end]
    simp

/-- The library's one variable that is read: it holds some number. -/
def Env (w : World) : Prop := ∃ m, w.cell? ⟨2, 0, none⟩ = some (.int .i64 m)
theorem Env.later {w w' : World} (h : Env w) (hb : Below w.heap.size w w') : Env w' := by
  obtain ⟨m, hm⟩ := h
  exact ⟨m, (hb.cell (World.block_lt_of_cell? w _ hm)).trans hm⟩

/-- A list of strings as it lies in memory: the value is a slice over cells that hold them. -/
def Strs (w : World) (v : Value) (l : List Lb.Bs) : Prop := ∃ (a : Option Addr) (cap : Nat), v = .slice a l.length cap ∧ l.length ≤ cap ∧ cap ≤ maxLen ∧
  (l ≠ [] → ∃ b o, a = some ⟨b, o, none⟩ ∧ b < w.heap.size ∧ ∀ j x, l[j]? = some x → w.cell? ⟨b, o + j, none⟩ = some (.string ⟨x.toArray⟩))
/-- A list of strings in a block that the call has made. -/
def OwnStrs (B : Nat) (w : World) (v : Value) (l : List Lb.Bs) : Prop := (l = [] ∧ v = .slice none 0 0) ∨
  (l ≠ [] ∧ l.length ≤ maxLen ∧ ∃ g, v = .slice (some ⟨g, 0, none⟩) l.length l.length ∧ B ≤ g ∧ w.heap[g]? = some (.cells (l.map fun x => Value.string ⟨x.toArray⟩).toArray 9 (0, 0)))

theorem Strs.later {w w' : World} {v : Value} {l : List Lb.Bs} (h : Strs w v l) (hb : Below w.heap.size w w') : Strs w' v l := by
  obtain ⟨a, cap, h1, h2, h3, h4⟩ := h
  refine ⟨a, cap, h1, h2, h3, fun hn => ?_⟩
  obtain ⟨b, o, h5, h6, h7⟩ := h4 hn
  exact ⟨b, o, h5, Nat.lt_of_lt_of_le h6 hb.size, fun j x hx => (hb.cell (p := ⟨b, o + j, none⟩) h6).trans (h7 j x hx)⟩
theorem OwnStrs.strs {B : Nat} {w : World} {v : Value} {l : List Lb.Bs} (h : OwnStrs B w v l) : Strs w v l := by
  rcases h with ⟨rfl, rfl⟩ | ⟨hn, hm, g, rfl, hB, hg⟩
  · exact ⟨none, 0, rfl, Nat.le_refl _, by unfold maxLen; omega, fun h => absurd rfl h⟩
  · refine ⟨_, _, rfl, Nat.le_refl _, hm, fun _ => ⟨g, 0, rfl, (Array.getElem?_eq_some_iff.1 hg).1, fun j x hx => ?_⟩⟩
    rw [Nat.zero_add, cell_of_row w g j _ _ _ hg]
    simp [hx]
theorem OwnStrs.mono {B B' : Nat} {w : World} {v : Value} {l : List Lb.Bs} (h : OwnStrs B w v l) (hB : B' ≤ B) : OwnStrs B' w v l := by
  rcases h with h | ⟨hn, hm, g, hv, hg, hh⟩
  · exact .inl h
  · exact .inr ⟨hn, hm, g, hv, Nat.le_trans hB hg, hh⟩
theorem OwnStrs.later {B B' : Nat} {w w' : World} {v : Value} {l : List Lb.Bs} (h : OwnStrs B w v l) (hb : Below w.heap.size w w') (hB : B' ≤ B) : OwnStrs B' w' v l := by
  rcases h with h | ⟨hn, hm, g, hv, hg, hh⟩
  · exact .inl h
  · exact .inr ⟨hn, hm, g, hv, Nat.le_trans hB hg, (hb.block g (Array.getElem?_eq_some_iff.1 hh).1).trans hh⟩
end Go.Proofs.YtajllcbjgndcpaaGreatDoor
