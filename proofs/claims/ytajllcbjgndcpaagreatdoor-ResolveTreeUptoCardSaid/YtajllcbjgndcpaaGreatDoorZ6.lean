/- WALKS: the order of records. -/
import Derived.Test.YtajllcbjgndcpaaGreatDoorZ5
namespace Go.Proofs.YtajllcbjgndcpaaGreatDoor
open Go.RowKit Go.Maps

theorem cmpI_is (x y : Int) : Lib.compareInt x y = Zn.cmpI x y := by
  unfold Lib.compareInt Zn.cmpI
  rfl
def CmpEnd (a b : Lb.Bs) (w0 : World) (e : Ending) (w' : World) : Prop := ∃ q : Int, e = .returned (.tuple #[.int .i64 (Zn.cmpN a b), .int .i64 q]) ∧ Below w0.heap.size w0 w'
theorem compare_all (s t : ByteArray) (w : World) (henv : Env w) : Calls Tryz.prog 80 #[.string s, .string t] w (CmpEnd s.data.toList t.data.toList w) := by
  unfold CmpEnd Zn.cmpN
  by_cases h1 : Lb.check s.data.toList = 0
  · by_cases h2 : Lb.check t.data.toList = 0
    · rw [if_pos ⟨h1, h2⟩]
      exact (compare_fit s t w henv (Lb.check_fit.1 h1) (Lb.check_fit.1 h2)).mono fun e w' ⟨he, hb⟩ => ⟨0, he, hb⟩
    · rw [if_neg (fun e => h2 e.2)]
      exact (compare_bad2 s t w henv (Lb.check_fit.1 h1) h2).mono fun e w' ⟨he, hb⟩ => ⟨_, he, hb⟩
  · rw [if_neg (fun e => h1 e.1)]
    exact (compare_bad1 s t w henv h1).mono fun e w' ⟨he, hb⟩ => ⟨_, he, hb⟩
def OrdEnd (a b : Cb.Rec) (w0 : World) (e : Ending) (w' : World) : Prop := e = .returned (.int .i64 (Zn.ord a b)) ∧ Below w0.heap.size w0 w'

set_option maxHeartbeats 3200000 in
set_option maxRecDepth 100000 in
theorem order_any (a b : Cb.Rec) (w : World) (henv : Env w) : Calls Tryz.prog 38 #[.agg (recV a).toArray, .agg (recV b).toArray] w (OrdEnd a b w) := by
  obtain ⟨n1, k1, t1, d1⟩ := a
  obtain ⟨n2, k2, t2, d2⟩ := b
  unfold OrdEnd Zn.ord recV
  dsimp only
  have hBa : Below w.heap.size w ((w.alloc (.cells #[.string ⟨n1.toArray⟩, .int .i64 k1, .int .i64 t1, .string ⟨d1.toArray⟩] 43)).alloc (.cells #[.string ⟨n2.toArray⟩, .int .i64 k2, .int .i64 t2, .string ⟨d2.toArray⟩] 43)) := ((Below.refl _ w).alloc (Nat.le_refl _) _).alloc (by simp) _
  have hb1 : ((w.alloc (.cells #[.string ⟨n1.toArray⟩, .int .i64 k1, .int .i64 t1, .string ⟨d1.toArray⟩] 43)).alloc (.cells #[.string ⟨n2.toArray⟩, .int .i64 k2, .int .i64 t2, .string ⟨d2.toArray⟩] 43)).heap[w.heap.size]? = some (.cells #[.string ⟨n1.toArray⟩, .int .i64 k1, .int .i64 t1, .string ⟨d1.toArray⟩] 43 (0, 0)) := by
    rw [Below.heap_alloc _ _ _ (by simp), heap_alloc_new]
  have hb2 : ((w.alloc (.cells #[.string ⟨n1.toArray⟩, .int .i64 k1, .int .i64 t1, .string ⟨d1.toArray⟩] 43)).alloc (.cells #[.string ⟨n2.toArray⟩, .int .i64 k2, .int .i64 t2, .string ⟨d2.toArray⟩] 43)).heap[w.heap.size + 1]? = some (.cells #[.string ⟨n2.toArray⟩, .int .i64 k2, .int .i64 t2, .string ⟨d2.toArray⟩] 43 (0, 0)) := by
    have := heap_alloc_new (w.alloc (.cells #[.string ⟨n1.toArray⟩, .int .i64 k1, .int .i64 t1, .string ⟨d1.toArray⟩] 43)) (.cells #[.string ⟨n2.toArray⟩, .int .i64 k2, .int .i64 t2, .string ⟨d2.toArray⟩] 43)
    simpa using this
  have HC := Lib.hid (show Calls Tryz.prog 80 #[.string ⟨n1.toArray⟩, .string ⟨n2.toArray⟩] _ (CmpEnd n1 n2 _) from compare_all ⟨n1.toArray⟩ ⟨n2.toArray⟩ _ (henv.later hBa))
  go_enter Tryz.func38, Tryz.ntmps38
  go_wp2_with fail
  generalize (w.alloc (.cells #[.string ⟨n1.toArray⟩, .int .i64 k1, .int .i64 t1, .string ⟨d1.toArray⟩] 43)).alloc (.cells #[.string ⟨n2.toArray⟩, .int .i64 k2, .int .i64 t2, .string ⟨d2.toArray⟩] 43) = w1 at *
  refine HC.out.mono ?_
  rintro e w2 ⟨q, rfl, hB⟩
  have hB1 := hBa.trans (hB.mono hBa.size)
  have hx1 := (hB.block _ (Array.getElem?_eq_some_iff.1 hb1).1).trans hb1
  have hx2 := (hB.block _ (Array.getElem?_eq_some_iff.1 hb2).1).trans hb2
  generalize hcn : Zn.cmpN n1 n2 = cn at *
  have Hcn := Lib.hid hcn
  clear hcn
  have hS1 : (fun W => W.cell? ⟨w.heap.size, 1, none⟩ = some (.int .i64 k1) ∧ W.cell? ⟨w.heap.size, 3, none⟩ = some (.string ⟨d1.toArray⟩) ∧ W.cell? ⟨w.heap.size + 1, 1, none⟩ = some (.int .i64 k2) ∧ W.cell? ⟨w.heap.size + 1, 3, none⟩ = some (.string ⟨d2.toArray⟩)) w2.drew :=
    ⟨by show w2.cell? _ = _; rw [cell_of_row w2 _ 1 _ _ _ hx1]; rfl, by show w2.cell? _ = _; rw [cell_of_row w2 _ 3 _ _ _ hx1]; rfl, by show w2.cell? _ = _; rw [cell_of_row w2 _ 1 _ _ _ hx2]; rfl, by show w2.cell? _ = _; rw [cell_of_row w2 _ 3 _ _ _ hx2]; rfl⟩
  clear HC hBa hb1 hb2 hB hx1 hx2
  go_upto_region 2 with fail
  refine wp_region_due [0, 1, 2, 3, 4, 5, 6, 7, 8, 9, 10, 11, 12] (fun W => W.cell? ⟨w.heap.size, 1, none⟩ = some (.int .i64 k1) ∧ W.cell? ⟨w.heap.size, 3, none⟩ = some (.string ⟨d1.toArray⟩) ∧ W.cell? ⟨w.heap.size + 1, 1, none⟩ = some (.int .i64 k2) ∧ W.cell? ⟨w.heap.size + 1, 3, none⟩ = some (.string ⟨d2.toArray⟩)) (by kernel_rfl) ?_
  refine wpDue_take (i := 0) (v := ?_) rfl (by kernel_rfl) (by kernel_rfl) (by kernel_rfl) (by kernel_rfl) (fun _ _ _ h => h) hS1 (.inl ⟨by rfl, ?_⟩) ?_
  rotate_left
  · intro W hW; (try dsimp only at hW); go_simp; try with_reducible rfl
  try simp only [Act.put]
  try simp only [List.setIfInBounds_toArray]
  try simp only [List.set_cons_succ]
  try simp only [List.set_cons_zero]
  refine wpDue_take (i := 1) (v := ?_) rfl (by kernel_rfl) (by kernel_rfl) (by kernel_rfl) (by kernel_rfl) (fun _ _ _ h => h) hS1 (.inl ⟨by rfl, ?_⟩) ?_
  rotate_left
  · intro W hW; (try dsimp only at hW); go_simp; try with_reducible rfl
  try simp only [Act.put]
  try simp only [List.setIfInBounds_toArray]
  try simp only [List.set_cons_succ]
  try simp only [List.set_cons_zero]
  refine wpDue_take (i := 2) (v := ?_) rfl (by kernel_rfl) (by kernel_rfl) (by kernel_rfl) (by kernel_rfl) (fun _ _ _ h => h) hS1 (.inl ⟨by rfl, ?_⟩) ?_
  rotate_left
  · intro W hW; (try dsimp only at hW); go_simp; try with_reducible rfl
  try simp only [Act.put]
  try simp only [List.setIfInBounds_toArray]
  try simp only [List.set_cons_succ]
  try simp only [List.set_cons_zero]
  refine wpDue_take (i := 3) (v := ?_) rfl (by kernel_rfl) (by kernel_rfl) (by kernel_rfl) (by kernel_rfl) (fun _ _ _ h => h) hS1 (.inl ⟨by rfl, ?_⟩) ?_
  rotate_left
  · intro W hW; (try dsimp only at hW); go_simp; try with_reducible rfl
  try simp only [Act.put]
  try simp only [List.setIfInBounds_toArray]
  try simp only [List.set_cons_succ]
  try simp only [List.set_cons_zero]
  refine wpDue_take (i := 4) (v := ?_) rfl (by kernel_rfl) (by kernel_rfl) (by kernel_rfl) (by kernel_rfl) (fun _ _ _ h => h) hS1 (.inl ⟨by rfl, ?_⟩) ?_
  rotate_left
  · intro W hW; (try dsimp only at hW); go_simp; try with_reducible rfl
  try simp only [Act.put]
  try simp only [List.setIfInBounds_toArray]
  try simp only [List.set_cons_succ]
  try simp only [List.set_cons_zero]
  refine wpDue_take (i := 6) (v := ?_) rfl (by kernel_rfl) (by kernel_rfl) (by kernel_rfl) (by kernel_rfl) (fun _ _ _ h => h) hS1 (.inl ⟨by rfl, ?_⟩) ?_
  rotate_left
  · intro W hW; (try dsimp only at hW); go_simp; try with_reducible rfl
  try simp only [Act.put]
  try simp only [List.setIfInBounds_toArray]
  try simp only [List.set_cons_succ]
  try simp only [List.set_cons_zero]
  refine wpDue_take (i := 7) (v := ?_) rfl (by kernel_rfl) (by kernel_rfl) (by kernel_rfl) (by kernel_rfl) (fun _ _ _ h => h) hS1 (.inl ⟨by rfl, ?_⟩) ?_
  rotate_left
  · intro W hW; (try dsimp only at hW); go_simp; try with_reducible rfl
  try simp only [Act.put]
  try simp only [List.setIfInBounds_toArray]
  try simp only [List.set_cons_succ]
  try simp only [List.set_cons_zero]
  refine wpDue_take (i := 8) (v := ?_) rfl (by kernel_rfl) (by kernel_rfl) (by kernel_rfl) (by kernel_rfl) (fun _ _ _ h => h) hS1 (.inl ⟨by rfl, ?_⟩) ?_
  rotate_left
  · intro W hW; (try dsimp only at hW); go_simp; try with_reducible rfl
  try simp only [Act.put]
  try simp only [List.setIfInBounds_toArray]
  try simp only [List.set_cons_succ]
  try simp only [List.set_cons_zero]
  refine wpDue_take (i := 9) (v := ?_) rfl (by kernel_rfl) (by kernel_rfl) (by kernel_rfl) (by kernel_rfl) (fun _ _ _ h => h) hS1 (.inl ⟨by rfl, ?_⟩) ?_
  rotate_left
  · intro W hW; (try dsimp only at hW); go_simp; try with_reducible rfl
  try simp only [Act.put]
  try simp only [List.setIfInBounds_toArray]
  try simp only [List.set_cons_succ]
  try simp only [List.set_cons_zero]
  refine wpDue_one (i := 5) (by kernel_rfl) rfl (fun K hK => ?_)
  have HK := Lib.hid hK
  clear hK
  go_simp
  refine (Tryz.cmp_Compare_int _ _ _).mono ?_
  rintro e w3 ⟨rfl, rfl⟩
  rw [cmpI_is]
  refine HK.out _ _ (fun _ => hS1) ?_
  clear HK K
  try simp only [Act.put]
  try simp only [List.setIfInBounds_toArray]
  try simp only [List.set_cons_succ]
  try simp only [List.set_cons_zero]
  refine wpDue_one (i := 10) (by kernel_rfl) rfl (fun K hK => ?_)
  have HK := Lib.hid hK
  clear hK
  go_simp
  refine (cmpStr_any _ _ _).mono ?_
  rintro e w3 ⟨rfl, rfl⟩
  refine HK.out _ _ (fun _ => hS1) ?_
  clear HK K
  refine wpDue_one (i := 11) (by kernel_rfl) rfl (fun K hK => ?_)
  have HK := Lib.hid hK
  clear hK
  go_simp
  have hn3 : ((w2.alloc (.cells #[.int .i64 cn, .int .i64 (Zn.cmpI k1 k2), .int .i64 (Lb.cmpS d1 d2)] 3)).drew).heap[w2.heap.size]? = some (.cells #[.int .i64 cn, .int .i64 (Zn.cmpI k1 k2), .int .i64 (Lb.cmpS d1 d2)] 3 (0, 0)) := heap_alloc_new w2 _
  have hB3 : Below w2.heap.size w2 ((w2.alloc (.cells #[.int .i64 cn, .int .i64 (Zn.cmpI k1 k2), .int .i64 (Lb.cmpS d1 d2)] 3)).drew) := ((Below.refl _ _).alloc (Nat.le_refl _) _).drew
  generalize (w2.alloc (.cells #[.int .i64 cn, .int .i64 (Zn.cmpI k1 k2), .int .i64 (Lb.cmpS d1 d2)] 3)).drew = w3 at *
  have hS3 : w3.cell? ⟨w.heap.size, 1, none⟩ = some (.int .i64 k1) ∧ w3.cell? ⟨w.heap.size, 3, none⟩ = some (.string ⟨d1.toArray⟩) ∧ w3.cell? ⟨w.heap.size + 1, 1, none⟩ = some (.int .i64 k2) ∧ w3.cell? ⟨w.heap.size + 1, 3, none⟩ = some (.string ⟨d2.toArray⟩) :=
    have go : ∀ p v, w2.cell? p = some v → w3.cell? p = some v := fun p v h => (hB3.cell (World.block_lt_of_cell? w2 _ h)).trans h
    ⟨go _ _ hS1.1, go _ _ hS1.2.1, go _ _ hS1.2.2.1, go _ _ hS1.2.2.2⟩
  have HO := Lib.hid (or_any cn (Zn.cmpI k1 k2) (Lb.cmpS d1 d2) w2.heap.size w3 (fun j x hx => by
    rw [cell_of_row w3 _ j _ _ _ hn3]
    show ([cn, Zn.cmpI k1 k2, Lb.cmpS d1 d2].map (Value.int .i64)).toArray[j]? = _
    rw [List.getElem?_toArray, List.getElem?_map, hx]; rfl))
  have HB := Lib.hid (hB1.trans (hB3.mono hB1.size))
  clear hS1 hn3 hB3 hB1
  refine HK.out _ _ (fun _ => hS3) ?_
  clear HK K
  refine wpDue_one (i := 12) (by kernel_rfl) rfl (fun K hK => ?_)
  have HK := Lib.hid hK
  clear hK
  go_simp
  refine HO.out.mono ?_
  rintro e w4 ⟨rfl, rfl⟩
  refine HK.out _ _ (fun _ => hS3) ?_
  clear HK K
  refine wpDue_one (i := 13) (by kernel_rfl) rfl (fun K hK => ?_)
  have HK := Lib.hid hK
  clear hK
  go_simp
  refine HK.out _ _ (fun h => absurd h (by decide)) ?_
  clear HK K
  refine wpDue_done (by kernel_rfl) ?_ _
  clear hS3
  go_wp2
  go_ret
  exact ⟨by rw [Hcn.out]; rfl, HB.out⟩
end Go.Proofs.YtajllcbjgndcpaaGreatDoor
