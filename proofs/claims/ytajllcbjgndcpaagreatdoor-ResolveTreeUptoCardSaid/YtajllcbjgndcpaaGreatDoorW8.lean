/- WALKS: Parent, slices.Compare, slices.Reverse, Compare. -/
import Derived.Test.YtajllcbjgndcpaaGreatDoorW7
namespace Go.Proofs.YtajllcbjgndcpaaGreatDoor
open Go.RowKit

set_option maxHeartbeats 800000 in
theorem parent_bad (s : ByteArray) (w : World) (henv : Env w) (h : ¬ Lb.check s.data.toList = 0) :
    Calls Tryz.prog 18 #[.string s] w fun e w' => e = .returned (.tuple #[.string ⟨#[]⟩, .int .i64 (Lb.check s.data.toList)]) ∧ Below w.heap.size w w' := by
  have hL := labels_bad s w henv h
  have hb : (Lb.check s.data.toList == 0) = false := beq_eq_false_iff_ne.2 h
  clear h
  generalize Lb.check s.data.toList = c at *
  have HL := Lib.hid hL
  clear hL
  go_enter Tryz.func18, Tryz.ntmps18
  go_wp2_with (go_at_call 43; refine HL.out.mono ?_; rintro e w1 ⟨rfl, hB⟩)
  go_ret2
  exact ⟨rfl, hB⟩
set_option maxHeartbeats 800000 in
theorem parent_root (s : ByteArray) (w : World) (henv : Env w) (h : Lb.Fit s.data.toList) (hr : Lb.split s.data.toList = []) :
    Calls Tryz.prog 18 #[.string s] w fun e w' => e = .returned (.tuple #[.string ⟨#[]⟩, .int .i64 4]) ∧ Below w.heap.size w w' := by
  have hL := labels_fit s w henv h
  rw [hr] at hL
  have HL := Lib.hid hL
  clear hL h hr
  go_enter Tryz.func18, Tryz.ntmps18
  go_wp2_with fail
  refine HL.out.mono ?_; rintro e w1 ⟨v, rfl, hO, hB⟩
  obtain ⟨a, cap, rfl, hcap, hm, hcell⟩ := hO.strs
  clear hcell
  go_wp2
  go_ret2
  exact ⟨rfl, hB⟩
set_option maxHeartbeats 800000 in
theorem parent_fit (s : ByteArray) (w : World) (henv : Env w) (h : Lb.Fit s.data.toList) (hr : Lb.split s.data.toList ≠ []) :
    Calls Tryz.prog 18 #[.string s] w fun e w' => e = .returned (.tuple #[.string ⟨(Lb.join (Lb.split s.data.toList).tail).toArray⟩, .int .i64 0]) ∧ Below w.heap.size w w' := by
  have hL := labels_fit s w henv h
  have hlen := (Lb.fit_suffix h 1).1.len
  rw [List.drop_one] at hlen
  have hlen2 : (Lb.join (Lb.split s.data.toList).tail).length ≤ 140737488355328 := by omega
  have hne : (((Lb.split s.data.toList).length : Int) == 0) = false := by rw [beq_eq_false_iff_ne]; have := List.length_pos_iff.2 hr; omega
  have hpos : 1 ≤ (Lb.split s.data.toList).length := List.length_pos_iff.2 hr
  clear h hlen hr
  generalize Lb.split s.data.toList = l at *
  have HL := Lib.hid hL
  clear hL
  go_enter Tryz.func18, Tryz.ntmps18
  go_wp2_with fail
  refine HL.out.mono ?_; rintro e w1 ⟨v, rfl, hO, hB⟩
  have hS := hO.strs
  obtain ⟨a, cap, rfl, hcap, hm, hcell⟩ := id hS
  obtain ⟨hD1, hD2⟩ := hS.drop hpos
  rw [List.drop_one] at hD1 hD2
  have HD1 := Lib.hid hD1
  have HD2 := Lib.hid hD2
  clear hcell hD1 hD2
  unfold maxLen at hm
  go_wp2_with fail
  · refine (join_any _ l.tail _ (HD1.out (by assumption)) hlen2).mono ?_
    rintro e w3 ⟨rfl, hB3⟩
    go_wp2
    go_ret2
    exact ⟨rfl, hB.trans (hB3.mono hB.size)⟩
  · refine (join_any _ l.tail _ (HD2.out (by assumption)) hlen2).mono ?_
    rintro e w3 ⟨rfl, hB3⟩
    go_wp2
    go_ret2
    exact ⟨rfl, hB.trans (hB3.mono hB.size)⟩

theorem drop_at {l : List Lb.Bs} {k : Nat} {x : Lb.Bs} (hx : l[k]? = some x) : l.drop k = x :: l.drop (k + 1) := by
  obtain ⟨h, rfl⟩ := List.getElem?_eq_some_iff.1 hx
  exact List.drop_eq_getElem_cons h
theorem cmpL_step {l m : List Lb.Bs} {k : Nat} {x y : Lb.Bs} (hx : l[k]? = some x) (hy : m[k]? = some y) :
    Lb.cmpL (l.drop k) (m.drop k) = if Lb.cmpS x y = 0 then Lb.cmpL (l.drop (k + 1)) (m.drop (k + 1)) else Lb.cmpS x y := by
  rw [drop_at hx, drop_at hy]; rfl

set_option maxHeartbeats 1600000 in
/-- slices.Compare at lists of strings. -/
theorem compareL_any (v1 v2 : Value) (l m : List Lb.Bs) (w : World) (h1 : Strs w v1 l) (h2 : Strs w v2 m) :
    Calls Tryz.prog 125 #[v1, v2] w fun e w' => e = .returned (.int .i64 (Lb.cmpL l m)) ∧ w' = w := by
  obtain ⟨a, cap, rfl, hcap, hm, hcell⟩ := id h1
  obtain ⟨a2, cap2, rfl, hcap2, hm2, hcell2⟩ := id h2
  clear hcell hcell2
  unfold maxLen at hm hm2
  go_enter Tryz.func125, Tryz.ntmps125
  go_wp2
  go_loop [11] (fun i => ∃ k : Nat, k ≤ l.length ∧ k ≤ m.length ∧ i = .int .i64 k ∧ Lb.cmpL (l.drop k) (m.drop k) = Lb.cmpL l m) (fun i => l.length - (intOf i).toNat)
  case atStart => exact ⟨0, Nat.zero_le _, Nat.zero_le _, rfl, rfl⟩
  case round =>
    obtain ⟨k, hk, hk2, rfl, hrest⟩ := hrel
    have Hrest := Lib.hid hrest
    clear hrest
    by_cases hlt : k < l.length
    · obtain ⟨b, o, rfl, hb, hc⟩ := strs_cells h1 (by intro e; rw [e] at hlt; simp at hlt)
      obtain ⟨x, hx⟩ : ∃ x, l[k]? = some x := ⟨l[k], List.getElem?_eq_getElem hlt⟩
      have hcx := hc k x hx
      have Hx := Lib.hid hx
      clear hx hc
      by_cases hlt2 : k < m.length
      · obtain ⟨b2, o2, rfl, hb2, hc2⟩ := strs_cells h2 (by intro e; rw [e] at hlt2; simp at hlt2)
        obtain ⟨y, hy⟩ : ∃ y, m[k]? = some y := ⟨m[k], List.getElem?_eq_getElem hlt2⟩
        have hcy := hc2 k y hy
        have Hy := Lib.hid hy
        clear hy hc2
        have hstep := cmpL_step Hx.out Hy.out
        rw [Hrest.out] at hstep
        have Hstep := Lib.hid hstep
        clear hstep
        go_wp2_with (go_at_call 83; refine (cmpStr_any _ _ _).mono ?_; rintro e w3 ⟨rfl, rfl⟩)
        · have hne : (Lb.cmpS x y != 0) = true := by assumption
          go_ret
          exact ⟨ret_int (by rw [Hstep.out, if_neg (by simpa using hne)]), rfl⟩
        · have hne : (Lb.cmpS x y != 0) = false := by assumption
          exact ⟨⟨k + 1, by omega, by omega, by go_num, by rw [Hstep.out, if_pos (by simpa using hne)]⟩, by simp [intOf]; omega⟩
      · go_wp2
        go_ret
        have hd : m.drop k = [] := List.drop_eq_nil_iff.2 (by omega)
        exact ⟨ret_int (by rw [← Hrest.out, drop_at Hx.out, hd]; rfl), rfl⟩
    · go_wp2
      · have hlm : l.length < m.length := by assumption
        go_ret
        refine ⟨ret_int ?_, rfl⟩
        rw [← Hrest.out, List.drop_eq_nil_iff.2 (show l.length ≤ k by omega), List.drop_eq_getElem_cons (show k < m.length by omega)]
        rfl
      · have hlm : ¬ l.length < m.length := by assumption
        go_ret
        refine ⟨ret_int ?_, rfl⟩
        rw [← Hrest.out, List.drop_eq_nil_iff.2 (show l.length ≤ k by omega), List.drop_eq_nil_iff.2 (show m.length ≤ k by omega)]
        rfl

/-- slices.Reverse at a list of strings that the call has made. -/
theorem reverse_any (B : Nat) (v : Value) (l : List Lb.Bs) (w : World) (h : OwnStrs B w v l) :
    Calls Tryz.prog 124 #[v] w fun e w' => e = .returned (.tuple #[]) ∧ OwnStrs B w' v l.reverse ∧ w.grownBy w' v.ownBlock := by
  rcases h with ⟨rfl, rfl⟩ | ⟨hn, hm, g, rfl, hg, hh⟩
  · exact (Tryz.slices_Reverse_string_empty none 0 w).mono fun e w' ⟨he, hw⟩ => ⟨he, hw ▸ .inl ⟨rfl, rfl⟩, hw ▸ ⟨rfl, rfl, rfl, Nat.le_refl _, fun _ _ _ => rfl⟩⟩
  · unfold maxLen at hm
    have hH : Sort.Holds encStr w g 0 l.toArray := by
      intro j hj
      have hj' : j < l.length := by simpa using hj
      refine ⟨?_, ?_⟩
      · rw [Nat.zero_add, cell_of_row w g j _ _ _ hh]
        simp [hj', encStr]
      · simp [World.frozen?, hh]
    refine (Tryz.slices_Reverse_string g 0 l.length l w hH (by omega)).mono fun e w' ⟨he, n, hw⟩ => ⟨he, ?_, ?_⟩
    · subst hw
      refine .inr ⟨by simpa using hn, by simpa [maxLen] using hm, g, by simp, hg, ?_⟩
      have h0 : (Sort.putRow encStr (Sort.ahead w n) g 0 l.reverse.toArray).heap[g]? = (w.heap[g]?).map (Sort.onCells (Sort.putCells encStr 0 l.reverse.toArray)) := by
        show (w.heap.modify g _)[g]? = _
        simp [Array.getElem?_modify]
      rw [h0, hh]
      simp only [Option.map_some, Sort.onCells]
      refine congrArg some (congrArg (fun c => Obj.cells c _ _) ?_)
      apply Array.ext_getElem?
      intro k
      simp only [Sort.putCells, Array.getElem?_mapIdx]
      by_cases hk : k < l.length
      · have e1 : ((l.map fun x => Value.string ⟨x.toArray⟩).toArray)[k]? = some (.string ⟨l[k].toArray⟩) := by simp [hk]
        rw [e1]
        have e2 : l.reverse.toArray[k]! = l.reverse[k]'(by simpa using hk) := by rw [getElem!_pos _ k (by simpa using hk)]; simp
        simp only [Option.map_some, Nat.zero_le, true_and, Nat.zero_add, List.size_toArray, List.length_reverse, if_pos hk, Nat.sub_zero, e2]
        simp [hk, encStr]
      · have e1 : ((l.map fun x => Value.string ⟨x.toArray⟩).toArray)[k]? = none := by simp; omega
        have e2 : ((l.reverse.map fun x => Value.string ⟨x.toArray⟩).toArray)[k]? = none := by simp; omega
        rw [e1, e2]; rfl
    · subst hw
      refine ⟨rfl, rfl, rfl, ?_, ?_⟩
      · show w.heap.size ≤ (w.heap.modify g _).size
        simp
      · intro k hk hne
        show (w.heap.modify g _)[k]? = _
        rw [Array.getElem?_modify, if_neg (by intro e; subst e; exact hne rfl)]

theorem OwnStrs.ownBlock {B : Nat} {w : World} {v : Value} {l : List Lb.Bs} (h : OwnStrs B w v l) : v.ownBlock = none ∨ ∃ g, v.ownBlock = some g ∧ B ≤ g ∧ g < w.heap.size := by
  rcases h with ⟨_, rfl⟩ | ⟨_, _, g, rfl, hg, hh⟩
  · exact .inl rfl
  · exact .inr ⟨g, rfl, hg, (Array.getElem?_eq_some_iff.1 hh).1⟩
theorem OwnStrs.grown {B : Nat} {w w' : World} {v : Value} {l : List Lb.Bs} {row : Option Nat} (h : OwnStrs B w v l) (hg : w.grownBy w' row) (hne : v.ownBlock = none ∨ v.ownBlock ≠ row) : OwnStrs B w' v l := by
  rcases h with h | ⟨hn, hm, g, rfl, hB, hh⟩
  · exact .inl h
  · refine .inr ⟨hn, hm, g, rfl, hB, ?_⟩
    rw [hg.block g (Array.getElem?_eq_some_iff.1 hh).1 (by rcases hne with hne | hne; simp [Value.ownBlock] at hne; exact hne)]
    exact hh
theorem below_grownBy {B : Nat} {a w w' : World} {v : Value} (h : Below B a w) (hg : w.grownBy w' v.ownBlock) (hB : B ≤ w.heap.size) (hv : v.ownBlock = none ∨ ∃ g, v.ownBlock = some g ∧ B ≤ g ∧ g < w.heap.size) : Below B a w' :=
  h.grown hg hB (fun k hk => by
    rcases hv with hv | ⟨g, hv, hg, _⟩
    · rw [hv] at hk; cases hk
    · rw [hv] at hk; injection hk with hk; subst hk; exact hg)

set_option maxHeartbeats 800000 in
theorem compare_bad1 (s t : ByteArray) (w : World) (henv : Env w) (h : ¬ Lb.check s.data.toList = 0) :
    Calls Tryz.prog 80 #[.string s, .string t] w fun e w' => e = .returned (.tuple #[.int .i64 0, .int .i64 (Lb.check s.data.toList)]) ∧ Below w.heap.size w w' := by
  have hL := labels_bad s w henv h
  have hb : (Lb.check s.data.toList == 0) = false := beq_eq_false_iff_ne.2 h
  clear h
  generalize Lb.check s.data.toList = c at *
  have HL := Lib.hid hL
  clear hL
  go_enter Tryz.func80, Tryz.ntmps80
  go_wp2_with (go_at_call 43; refine HL.out.mono ?_; rintro e w1 ⟨rfl, hB⟩)
  go_ret2
  exact ⟨rfl, hB⟩
set_option maxHeartbeats 800000 in
theorem compare_bad2 (s t : ByteArray) (w : World) (henv : Env w) (h1 : Lb.Fit s.data.toList) (h : ¬ Lb.check t.data.toList = 0) :
    Calls Tryz.prog 80 #[.string s, .string t] w fun e w' => e = .returned (.tuple #[.int .i64 0, .int .i64 (Lb.check t.data.toList)]) ∧ Below w.heap.size w w' := by
  have hL := fun w henv => labels_bad t w henv h
  have hb : (Lb.check t.data.toList == 0) = false := beq_eq_false_iff_ne.2 h
  clear h
  generalize Lb.check t.data.toList = c at *
  have HL := Lib.hid hL
  clear hL
  have H1 := Lib.hid (labels_fit s w henv h1)
  clear h1
  go_enter Tryz.func80, Tryz.ntmps80
  go_wp2_with fail
  refine H1.out.mono ?_; rintro e w1 ⟨v, rfl, hO, hB⟩
  go_wp2_with fail
  refine (HL.out _ (henv.later hB)).mono ?_; rintro e w2 ⟨rfl, hB2⟩
  go_wp2
  go_ret2
  exact ⟨rfl, hB.trans (hB2.mono hB.size)⟩
set_option maxHeartbeats 800000 in
theorem compare_fit (s t : ByteArray) (w : World) (henv : Env w) (h1 : Lb.Fit s.data.toList) (h2 : Lb.Fit t.data.toList) :
    Calls Tryz.prog 80 #[.string s, .string t] w fun e w' => e = .returned (.tuple #[.int .i64 (Lb.compare s.data.toList t.data.toList), .int .i64 0]) ∧ Below w.heap.size w w' := by
  have H1 := Lib.hid (labels_fit s w henv h1)
  have H2 := Lib.hid fun w henv => labels_fit t w henv h2
  clear h1 h2
  have hun : Lb.compare s.data.toList t.data.toList = Lb.cmpL (Lb.split s.data.toList).reverse (Lb.split t.data.toList).reverse := rfl
  go_enter Tryz.func80, Tryz.ntmps80
  generalize Lb.split s.data.toList = l at *
  generalize Lb.split t.data.toList = m at *
  have Hun := Lib.hid hun
  clear hun
  go_wp2_with fail
  refine H1.out.mono ?_; rintro e w1 ⟨v, rfl, hO, hB⟩
  go_wp2_with fail
  refine (H2.out _ (henv.later hB)).mono ?_; rintro e w2 ⟨v2, rfl, hO2, hB2⟩
  have hO' := hO.later hB2 (Nat.le_refl _)
  go_wp2_with fail
  refine (reverse_any _ _ _ _ hO').mono ?_; rintro e w3 ⟨rfl, hR, hg⟩
  have hb1 := hO'.ownBlock
  have hb0 := hO.ownBlock
  have hb2 := hO2.ownBlock
  have hO2' := hO2.grown hg (by
    rcases hb2 with hb2 | ⟨g2, hb2, hg2, _⟩
    · exact .inl hb2
    · right
      rcases hb0 with hb0 | ⟨g1, hb0, _, hg1⟩
      · rw [hb0, hb2]; simp
      · rw [hb0, hb2]; intro e; injection e; omega)
  go_wp2_with fail
  refine (reverse_any _ _ _ _ hO2').mono ?_; rintro e w4 ⟨rfl, hR2, hg2⟩
  have hR' := hR.grown hg2 (by
    rcases hb0 with hb0 | ⟨g1, hb0, _, hg1⟩
    · exact .inl hb0
    · right
      rcases hb2 with hb2 | ⟨g2, hb2, hg2, _⟩
      · rw [hb0, hb2]; simp
      · rw [hb0, hb2]; intro e; injection e; omega)
  have hA := hB.trans (hB2.mono hB.size)
  have hA3 := below_grownBy hA hg hA.size (by
    rcases hb0 with hb0 | ⟨g1, hb0, h1, hg1⟩
    · exact .inl hb0
    · exact .inr ⟨g1, hb0, h1, Nat.lt_of_lt_of_le hg1 hB2.size⟩)
  have hA4 := below_grownBy hA3 hg2 hA3.size (by
    rcases hb2 with hb2 | ⟨g1, hb2, h1, hg1⟩
    · exact .inl hb2
    · exact .inr ⟨g1, hb2, Nat.le_trans hB.size h1, Nat.lt_of_lt_of_le hg1 hg.size⟩)
  go_wp2_with fail
  refine (compareL_any _ _ _ _ _ hR'.strs hR2.strs).mono ?_; rintro e w5 ⟨rfl, rfl⟩
  go_wp2
  go_ret2
  exact ⟨by rw [Hun.out]; rfl, hA4⟩
end Go.Proofs.YtajllcbjgndcpaaGreatDoor
