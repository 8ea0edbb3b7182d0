/- WALK: clone. -/
import Derived.Test.YtajllcbjgndcpaaGreatDoorK8
import Derived.Test.YtajllcbjgndcpaaGreatDoorDue
import Derived.Deep.RegionWith
import Derived.Handy
namespace Go.Proofs.YtajllcbjgndcpaaGreatDoor
open Go.RowKit Go.Maps

theorem RowR.setLow {B : Nat} {w : World} {v : Value} {l : List Cb.Rec} (h : RowR B w v l) (p : Addr) (hp : p.block < B) (u : Value) : RowR B (w.setCell p u) v l := by
  refine ⟨h.1, ?_⟩
  rcases h.2 with h2 | ⟨g, cap, cur, h2, h3, h4, h5⟩
  · exact .inl h2
  · exact .inr ⟨g, cap, cur, h2, h3, (Below.heap_setCell _ _ _ _ (by omega)).trans h4, h5⟩
/-- What clone leaves: an answer whose lists lie in rows of its own. -/
def CloneEnd (p : Cb.Rp) (w0 : World) (e : Ending) (w' : World) : Prop :=
  ∃ (ra : Option Addr) (rc : Nat) (sa : Option Addr) (sc : Nat) (ga : Option Addr) (gc : Nat), e = .returned (.agg #[.int .i64 p.code, .slice ra p.recs.length rc, .slice sa 0 sc, .slice ga 0 gc, .int .i64 p.neg]) ∧
    RowR w0.heap.size w' (.slice ra p.recs.length rc) p.recs ∧ RowR w0.heap.size w' (.slice sa 0 sc) [] ∧ RowR w0.heap.size w' (.slice ga 0 gc) [] ∧ Below w0.heap.size w0 w'
theorem RowR.val {B : Nat} {w : World} {v : Value} {l : List Cb.Rec} (h : RowR B w v l) : ∃ a cap, v = .slice a l.length cap := ownsRow_val h
theorem RowR.mono {B B' : Nat} {w : World} {v : Value} {l : List Cb.Rec} (h : RowR B w v l) (hb : B' ≤ B) : RowR B' w v l := World.ownsRow.mono h hb

theorem reply_stored {w4 : World} {s0 : Nat} {t : TypeId} {z0 z1 z2 z3 z4 a b c v0 v1 v2 v3 v4 : Value} (h : w4.heap[s0 + 1]? = some (.cells #[z0, z1, z2, z3, z4] t (0, 0))) :
    ((((((((w4.setCell ⟨s0, 1, none⟩ a).setCell ⟨s0, 2, none⟩ b).setCell ⟨s0, 3, none⟩ c).setCell ⟨s0 + 1, 0, none⟩ v0).setCell ⟨s0 + 1, 1, none⟩ v1).setCell ⟨s0 + 1, 2, none⟩ v2).setCell ⟨s0 + 1, 3, none⟩ v3).setCell ⟨s0 + 1, 4, none⟩ v4).heap[s0 + 1]? =
      some (.cells #[v0, v1, v2, v3, v4] t (0, 0)) := by
  have h3 : (((w4.setCell ⟨s0, 1, none⟩ a).setCell ⟨s0, 2, none⟩ b).setCell ⟨s0, 3, none⟩ c).heap[s0 + 1]? = some (.cells #[z0, z1, z2, z3, z4] t (0, 0)) := by
    rw [Below.heap_setCell _ _ _ _ (by simp), Below.heap_setCell _ _ _ _ (by simp), Below.heap_setCell _ _ _ _ (by simp), h]
  rw [heap_setCell_same _ _ 4 _ _ _ (heap_setCell_same _ _ 3 _ _ _ (heap_setCell_same _ _ 2 _ _ _ (heap_setCell_same _ _ 1 _ _ _ (heap_setCell_same _ _ 0 _ _ _ h3))))]
  rfl

set_option maxHeartbeats 1600000 in
set_option maxRecDepth 100000 in
theorem cloneReply_any (B : Nat) (x : RP) (w : World) (h : ROk B w x) (hs0 : x.p.ns = 0) (hg0 : x.p.ng = 0) (hl : x.p.recs.length ≤ 100000) (hr : Recs B w (.slice x.sa 0 x.sc) []) (hg : Recs B w (.slice x.ga 0 x.gc) []) :
    Calls Tryz.prog 115 #[.agg (rpV x).toArray] w (CloneEnd x.p w) := by
  obtain ⟨⟨code, recs, ns, ng, neg⟩, ra, rc, sa, sc, ga, gc⟩ := x
  simp only at hs0 hg0 hl hr hg
  subst hs0 hg0
  have h1 := h.r
  simp only at h1
  unfold rpV
  simp only
  have HR := Lib.hid (fun W (hW : Below w.heap.size w W) => clone_any B _ recs W (h1.later hW) hl)
  have HS := Lib.hid (fun W (hW : Below w.heap.size w W) => clone_any B _ [] W (hr.later hW) (by simp))
  have HG := Lib.hid (fun W (hW : Below w.heap.size w W) => clone_any B _ [] W (hg.later hW) (by simp))
  have hB : Below w.heap.size w ((w.alloc (.cells #[.int .i64 code, .slice ra recs.length rc, .slice sa 0 sc, .slice ga 0 gc, .int .i64 neg] 39)).alloc (.cells #[.int .i64 0, .slice none 0 0, .slice none 0 0, .slice none 0 0, .int .i64 0] 39)) := ((Below.refl _ w).alloc (Nat.le_refl _) _).alloc (by simp) _
  clear h h1 hr hg
  go_enter Tryz.func115, Tryz.ntmps115
  go_wp2_with fail
  have hs : ((w.alloc (.cells #[.int .i64 code, .slice ra recs.length rc, .slice sa 0 sc, .slice ga 0 gc, .int .i64 neg] 39)).alloc (.cells #[.int .i64 0, .slice none 0 0, .slice none 0 0, .slice none 0 0, .int .i64 0] 39)).heap[w.heap.size]? = some (.cells #[.int .i64 code, .slice ra recs.length rc, .slice sa 0 sc, .slice ga 0 gc, .int .i64 neg] 39 (0, 0)) := by
    rw [Below.heap_alloc _ _ _ (by simp), heap_alloc_new]
  have hs2 : ((w.alloc (.cells #[.int .i64 code, .slice ra recs.length rc, .slice sa 0 sc, .slice ga 0 gc, .int .i64 neg] 39)).alloc (.cells #[.int .i64 0, .slice none 0 0, .slice none 0 0, .slice none 0 0, .int .i64 0] 39)).heap[w.heap.size + 1]? = some (.cells #[.int .i64 0, .slice none 0 0, .slice none 0 0, .slice none 0 0, .int .i64 0] 39 (0, 0)) := by
    have := heap_alloc_new (w.alloc (.cells #[.int .i64 code, .slice ra recs.length rc, .slice sa 0 sc, .slice ga 0 gc, .int .i64 neg] 39)) (.cells #[.int .i64 0, .slice none 0 0, .slice none 0 0, .slice none 0 0, .int .i64 0] 39)
    simpa using this
  generalize (w.alloc (.cells #[.int .i64 code, .slice ra recs.length rc, .slice sa 0 sc, .slice ga 0 gc, .int .i64 neg] 39)).alloc (.cells #[.int .i64 0, .slice none 0 0, .slice none 0 0, .slice none 0 0, .int .i64 0] 39) = w1 at *
  have Hs := Lib.hid hs
  have Hs2 := Lib.hid hs2
  have hc := fun j => cell_of_row w1 _ j _ _ _ hs
  have hf := fun j => frozen_of_row w1 _ j _ _ hs
  clear hs hs2
  have hlt1 : w.heap.size + 1 < w1.heap.size := (Array.getElem?_eq_some_iff.1 Hs2.out).1
  have hS1 : (fun W => W.cell? ⟨w.heap.size, 1, none⟩ = some (.slice ra recs.length rc) ∧ W.cell? ⟨w.heap.size, 2, none⟩ = some (.slice sa 0 sc) ∧ W.cell? ⟨w.heap.size, 3, none⟩ = some (.slice ga 0 gc)) w1.drew := ⟨by show w1.cell? _ = _; rw [hc]; rfl, by show w1.cell? _ = _; rw [hc]; rfl, by show w1.cell? _ = _; rw [hc]; rfl⟩
  clear hc hf
  refine wp_region_due [0, 1, 2, 3, 4, 5, 6, 7, 8] (fun W => W.cell? ⟨w.heap.size, 1, none⟩ = some (.slice ra recs.length rc) ∧ W.cell? ⟨w.heap.size, 2, none⟩ = some (.slice sa 0 sc) ∧ W.cell? ⟨w.heap.size, 3, none⟩ = some (.slice ga 0 gc)) (by kernel_rfl) ?_
  refine wpDue_take (i := 0) (v := ?_) rfl (by kernel_rfl) (by kernel_rfl) (by kernel_rfl) (by kernel_rfl) (fun _ _ _ h => h) hS1 (.inl ⟨by rfl, ?_⟩) ?_
  rotate_left
  · intro W hW; (try dsimp only at hW); go_simp; try with_reducible rfl
  try simp only [Act.put]
  try simp only [List.setIfInBounds_toArray]
  try simp only [List.set_cons_succ]
  try simp only [List.set_cons_zero]
  refine wpDue_take (i := 1) (v := ?_) rfl (by kernel_rfl) (by kernel_rfl) (by kernel_rfl) (by kernel_rfl) (fun _ _ _ h => h) hS1 (.inl ⟨by rfl, ?_⟩) ?_
  rotate_left
  · intro W hW; (try dsimp only at hW); go_simp; try with_reducible rfl
  try simp only [Act.put]
  try simp only [List.setIfInBounds_toArray]
  try simp only [List.set_cons_succ]
  try simp only [List.set_cons_zero]
  refine wpDue_take (i := 3) (v := ?_) rfl (by kernel_rfl) (by kernel_rfl) (by kernel_rfl) (by kernel_rfl) (fun _ _ _ h => h) hS1 (.inl ⟨by rfl, ?_⟩) ?_
  rotate_left
  · intro W hW; (try dsimp only at hW); go_simp; try with_reducible rfl
  try simp only [Act.put]
  try simp only [List.setIfInBounds_toArray]
  try simp only [List.set_cons_succ]
  try simp only [List.set_cons_zero]
  refine wpDue_take (i := 4) (v := ?_) rfl (by kernel_rfl) (by kernel_rfl) (by kernel_rfl) (by kernel_rfl) (fun _ _ _ h => h) hS1 (.inl ⟨by rfl, ?_⟩) ?_
  rotate_left
  · intro W hW; (try dsimp only at hW); go_simp; try with_reducible rfl
  try simp only [Act.put]
  try simp only [List.setIfInBounds_toArray]
  try simp only [List.set_cons_succ]
  try simp only [List.set_cons_zero]
  refine wpDue_take (i := 6) (v := ?_) rfl (by kernel_rfl) (by kernel_rfl) (by kernel_rfl) (by kernel_rfl) (fun _ _ _ h => h) hS1 (.inl ⟨by rfl, ?_⟩) ?_
  rotate_left
  · intro W hW; (try dsimp only at hW); go_simp; try with_reducible rfl
  try simp only [Act.put]
  try simp only [List.setIfInBounds_toArray]
  try simp only [List.set_cons_succ]
  try simp only [List.set_cons_zero]
  refine wpDue_take (i := 7) (v := ?_) rfl (by kernel_rfl) (by kernel_rfl) (by kernel_rfl) (by kernel_rfl) (fun _ _ _ h => h) hS1 (.inl ⟨by rfl, ?_⟩) ?_
  rotate_left
  · intro W hW; (try dsimp only at hW); go_simp; try with_reducible rfl
  try simp only [Act.put]
  try simp only [List.setIfInBounds_toArray]
  try simp only [List.set_cons_succ]
  try simp only [List.set_cons_zero]
  refine wpDue_one (i := 2) (by kernel_rfl) rfl (fun K hK => ?_)
  have HK := Lib.hid hK
  clear hK
  go_simp
  refine (HR.out _ hB.drew).mono ?_
  rintro e w2 ⟨v', rfl, hR, hb⟩
  obtain ⟨ra', rc', rfl⟩ := hR.val
  have hB2 := hB.drew.trans (hb.mono hB.drew.size)
  have Hs3 := Lib.hid ((hb.block w.heap.size (by show w.heap.size < w1.heap.size; omega)).trans Hs.out)
  have Hs4 := Lib.hid ((hb.block (w.heap.size + 1) hlt1).trans Hs2.out)
  have h12 : w1.heap.size ≤ w2.heap.size := hb.size
  have HR2 := Lib.hid (show RowR w1.heap.size w2 _ recs from hR)
  have hS2 : w2.cell? ⟨w.heap.size, 1, none⟩ = some (.slice ra recs.length rc) ∧ w2.cell? ⟨w.heap.size, 2, none⟩ = some (.slice sa 0 sc) ∧ w2.cell? ⟨w.heap.size, 3, none⟩ = some (.slice ga 0 gc) :=
    ⟨by rw [cell_of_row w2 _ 1 _ _ _ Hs3.out]; rfl, by rw [cell_of_row w2 _ 2 _ _ _ Hs3.out]; rfl, by rw [cell_of_row w2 _ 3 _ _ _ Hs3.out]; rfl⟩
  clear hR hb
  refine HK.out _ _ (fun _ => hS2) ?_
  clear HK K
  try simp only [Act.put]
  try simp only [List.setIfInBounds_toArray]
  try simp only [List.set_cons_succ]
  try simp only [List.set_cons_zero]
  refine wpDue_take (i := 9) (v := ?_) rfl (by kernel_rfl) (by kernel_rfl) (by kernel_rfl) (by kernel_rfl) (fun _ _ _ h => h) hS2 (.inl ⟨by rfl, ?_⟩) ?_
  rotate_left
  · intro W hW; (try dsimp only at hW); go_simp; try with_reducible rfl
  try simp only [Act.put]
  try simp only [List.setIfInBounds_toArray]
  try simp only [List.set_cons_succ]
  try simp only [List.set_cons_zero]
  refine wpDue_one (i := 5) (by kernel_rfl) rfl (fun K hK => ?_)
  have HK := Lib.hid hK
  clear hK
  go_simp
  refine (HS.out _ hB2).mono ?_
  rintro e w3 ⟨v', rfl, hS, hb⟩
  obtain ⟨sa', sc', rfl⟩ := hS.val
  have hB3 := hB2.trans (hb.mono hB2.size)
  have Hs5 := Lib.hid ((hb.block w.heap.size (Array.getElem?_eq_some_iff.1 Hs3.out).1).trans Hs3.out)
  have Hs6 := Lib.hid ((hb.block (w.heap.size + 1) (Array.getElem?_eq_some_iff.1 Hs4.out).1).trans Hs4.out)
  have h13 : w1.heap.size ≤ w3.heap.size := Nat.le_trans h12 hb.size
  have HR3 := Lib.hid (HR2.out.later hb)
  have HS3 := Lib.hid (hS.mono h12)
  have hS3 : w3.cell? ⟨w.heap.size, 1, none⟩ = some (.slice ra recs.length rc) ∧ w3.cell? ⟨w.heap.size, 2, none⟩ = some (.slice sa 0 sc) ∧ w3.cell? ⟨w.heap.size, 3, none⟩ = some (.slice ga 0 gc) :=
    ⟨by rw [cell_of_row w3 _ 1 _ _ _ Hs5.out]; rfl, by rw [cell_of_row w3 _ 2 _ _ _ Hs5.out]; rfl, by rw [cell_of_row w3 _ 3 _ _ _ Hs5.out]; rfl⟩
  clear hS hb
  refine HK.out _ _ (fun _ => hS3) ?_
  clear HK K
  try simp only [Act.put]
  try simp only [List.setIfInBounds_toArray]
  try simp only [List.set_cons_succ]
  try simp only [List.set_cons_zero]
  refine wpDue_one (i := 8) (by kernel_rfl) rfl (fun K hK => ?_)
  have HK := Lib.hid hK
  clear hK
  go_simp
  refine (HG.out _ hB3).mono ?_
  rintro e w4 ⟨v', rfl, hG, hb⟩
  obtain ⟨ga', gc', rfl⟩ := hG.val
  have hB4 := hB3.trans (hb.mono hB3.size)
  have Hs7 := Lib.hid ((hb.block w.heap.size (Array.getElem?_eq_some_iff.1 Hs5.out).1).trans Hs5.out)
  have Hs8 := Lib.hid ((hb.block (w.heap.size + 1) (Array.getElem?_eq_some_iff.1 Hs6.out).1).trans Hs6.out)
  have HR4 := Lib.hid (HR3.out.later hb)
  have HS4 := Lib.hid (HS3.out.later hb)
  have HG4 := Lib.hid (hG.mono h13)
  have hS4 : w4.cell? ⟨w.heap.size, 1, none⟩ = some (.slice ra recs.length rc) ∧ w4.cell? ⟨w.heap.size, 2, none⟩ = some (.slice sa 0 sc) ∧ w4.cell? ⟨w.heap.size, 3, none⟩ = some (.slice ga 0 gc) :=
    ⟨by rw [cell_of_row w4 _ 1 _ _ _ Hs7.out]; rfl, by rw [cell_of_row w4 _ 2 _ _ _ Hs7.out]; rfl, by rw [cell_of_row w4 _ 3 _ _ _ Hs7.out]; rfl⟩
  clear hG hb
  refine HK.out _ _ (fun _ => hS4) ?_
  clear HK K
  try simp only [Act.put]
  try simp only [List.setIfInBounds_toArray]
  try simp only [List.set_cons_succ]
  try simp only [List.set_cons_zero]
  have hc7 := fun j => cell_of_row w4 _ j _ _ _ Hs7.out
  have hf7 := fun j => frozen_of_row w4 _ j _ _ Hs7.out
  have hc8 := fun j => cell_of_row w4 _ j _ _ _ Hs8.out
  have hf8 := fun j => frozen_of_row w4 _ j _ _ Hs8.out
  refine wpDue_one (i := 10) (by kernel_rfl) rfl (fun K hK => ?_)
  have HK := Lib.hid hK
  clear hK
  go_simp
  refine HK.out _ _ (fun h => absurd h (by decide)) ?_
  clear HK K
  try simp only [Act.put]
  try simp only [List.setIfInBounds_toArray]
  try simp only [List.set_cons_succ]
  try simp only [List.set_cons_zero]
  refine wpDue_one (i := 11) (by kernel_rfl) rfl (fun K hK => ?_)
  have HK := Lib.hid hK
  clear hK
  go_simp
  refine HK.out _ _ (fun h => absurd h (by decide)) ?_
  clear HK K
  try simp only [Act.put]
  try simp only [List.setIfInBounds_toArray]
  try simp only [List.set_cons_succ]
  try simp only [List.set_cons_zero]
  refine wpDue_one (i := 12) (by kernel_rfl) rfl (fun K hK => ?_)
  have HK := Lib.hid hK
  clear hK
  go_simp
  refine HK.out _ _ (fun h => absurd h (by decide)) ?_
  clear HK K
  try simp only [Act.put]
  try simp only [List.setIfInBounds_toArray]
  try simp only [List.set_cons_succ]
  try simp only [List.set_cons_zero]
  refine wpDue_one (i := 13) (by kernel_rfl) rfl (fun K hK => ?_)
  have HK := Lib.hid hK
  clear hK
  go_simp
  refine HK.out _ _ (fun h => absurd h (by decide)) ?_
  clear HK K
  try simp only [Act.put]
  try simp only [List.setIfInBounds_toArray]
  try simp only [List.set_cons_succ]
  try simp only [List.set_cons_zero]
  refine wpDue_one (i := 14) (by kernel_rfl) rfl (fun K hK => ?_)
  have HK := Lib.hid hK
  clear hK
  go_simp
  refine HK.out _ _ (fun h => absurd h (by decide)) ?_
  clear HK K
  try simp only [Act.put]
  try simp only [List.setIfInBounds_toArray]
  try simp only [List.set_cons_succ]
  try simp only [List.set_cons_zero]
  refine wpDue_done (by kernel_rfl) ?_ _
  go_wp2
  refine bodyPost_ret (results_cell_row rfl _ _ (w.heap.size + 1) 39 _ (0, 0) _ rfl (reply_stored Hs8.out) Tryz.underlying39 rfl (by kernel_rfl)) rfl ?_
  have hlt0 : w.heap.size < w1.heap.size := Nat.lt_of_succ_lt hlt1
  have hge0 : w.heap.size ≤ w.heap.size := Nat.le_refl _
  have hge1 : w.heap.size ≤ w.heap.size + 1 := Nat.le_succ _
  refine ⟨ra', rc', sa', sc', ga', gc', rfl, ?_, ?_, ?_, ?_⟩
  · refine RowR.mono ?_ hB.size
    refine RowR.setLow ?_ _ hlt1 _
    refine RowR.setLow ?_ _ hlt1 _
    refine RowR.setLow ?_ _ hlt1 _
    refine RowR.setLow ?_ _ hlt1 _
    refine RowR.setLow ?_ _ hlt1 _
    refine RowR.setLow ?_ _ hlt0 _
    refine RowR.setLow ?_ _ hlt0 _
    refine RowR.setLow ?_ _ hlt0 _
    exact HR4.out
  · refine RowR.mono ?_ hB.size
    refine RowR.setLow ?_ _ hlt1 _
    refine RowR.setLow ?_ _ hlt1 _
    refine RowR.setLow ?_ _ hlt1 _
    refine RowR.setLow ?_ _ hlt1 _
    refine RowR.setLow ?_ _ hlt1 _
    refine RowR.setLow ?_ _ hlt0 _
    refine RowR.setLow ?_ _ hlt0 _
    refine RowR.setLow ?_ _ hlt0 _
    exact HS4.out
  · refine RowR.mono ?_ hB.size
    refine RowR.setLow ?_ _ hlt1 _
    refine RowR.setLow ?_ _ hlt1 _
    refine RowR.setLow ?_ _ hlt1 _
    refine RowR.setLow ?_ _ hlt1 _
    refine RowR.setLow ?_ _ hlt1 _
    refine RowR.setLow ?_ _ hlt0 _
    refine RowR.setLow ?_ _ hlt0 _
    refine RowR.setLow ?_ _ hlt0 _
    exact HG4.out
  · refine Below.setCell ?_ hge1 _
    refine Below.setCell ?_ hge1 _
    refine Below.setCell ?_ hge1 _
    refine Below.setCell ?_ hge1 _
    refine Below.setCell ?_ hge1 _
    refine Below.setCell ?_ hge0 _
    refine Below.setCell ?_ hge0 _
    refine Below.setCell ?_ hge0 _
    exact hB4
end Go.Proofs.YtajllcbjgndcpaaGreatDoor
