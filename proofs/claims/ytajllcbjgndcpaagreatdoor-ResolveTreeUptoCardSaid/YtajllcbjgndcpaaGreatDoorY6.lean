/- WALKS: replyFact. -/
import Derived.Test.YtajllcbjgndcpaaGreatDoorY5
namespace Go.Proofs.YtajllcbjgndcpaaGreatDoor
open Go.RowKit Go.Maps

theorem recs_block {B b : Nat} {w : World} {l : List Cb.Rec} (h : Blk w b (l.flatMap recV).toArray 43) (hl : l.length ≤ 100000) : Recs B w (.slice (some ⟨b, 0, none⟩) l.length l.length) l := by
  refine ⟨_, l.length, rfl, Nat.le_refl _, by unfold maxLen; omega, fun _ => ⟨b, 0, rfl, h.lt, .inr ⟨_, _, h⟩, fun j r hr i u hu => ?_⟩⟩
  rw [h.cell]
  have := flat_at recV 4 recV_len l j r hr i u hu
  rw [Nat.zero_add]
  simpa using this
def factL : List Cb.Rec := [⟨[98, 46], 5, 9, [53]⟩, ⟨[97, 46, 98, 46], 4, 7, [120]⟩]
theorem fact_answer : Rn.answer ⟨[98, 46], factL⟩ [97, 46, 98, 46] 4 = ({ code := 1, recs := [⟨[97, 46, 98, 46], 4, 7, [120]⟩] }, 0) := by decide +kernel
def TrueEnd (w0 : World) (e : Ending) (w' : World) : Prop := e = .returned (.bool true) ∧ Below w0.heap.size w0 w'

set_option maxHeartbeats 3200000 in
set_option maxRecDepth 100000 in
theorem replyFact_any (w : World) (henv : EnvZ w) : Calls Tryz.prog 23 #[] w (TrueEnd w) := by
  have hb : Blk (w.alloc (.cells (factL.flatMap recV).toArray 43)) w.heap.size (factL.flatMap recV).toArray 43 := blk_new w _ _
  have hB1 := (Below.refl _ w).alloc (Nat.le_refl _) (.cells (factL.flatMap recV).toArray 43)
  have hB2 := hB1.alloc (by simp) (.cells #[.string ⟨#[98, 46]⟩, .slice (some ⟨w.heap.size, 0, none⟩) 2 2] 24)
  have hA := answer_any 0 [98, 46] (some ⟨w.heap.size, 0, none⟩) 2 factL [97, 46, 98, 46] 4 _ (henv.later hB2) (recs_block (hb.alloc (.cells #[.string ⟨#[98, 46]⟩, .slice (some ⟨w.heap.size, 0, none⟩) 2 2] 24)) (by decide)) (by intro r hr; simp [factL] at hr; rcases hr with rfl | rfl <;> simp)
  rw [fact_answer] at hA
  unfold AnsEnd zoneV at hA
  have e8 : (factL.flatMap recV).toArray = #[.string ⟨#[98, 46]⟩, .int .i64 5, .int .i64 9, .string ⟨#[53]⟩, .string ⟨#[97, 46, 98, 46]⟩, .int .i64 4, .int .i64 7, .string ⟨#[120]⟩] := rfl
  rw [e8] at hA hB2
  have HA := Lib.hid hA
  have HB2 := Lib.hid hB2
  clear hb hB1 hB2 hA e8
  go_enter Tryz.func23, Tryz.ntmps23
  go_wp2_with fail
  refine HA.out.mono ?_
  rintro e w3 ⟨v, rfl, hrep, hB3⟩
  have HB3 := Lib.hid (HB2.out.trans (hB3.mono HB2.out.size))
  obtain ⟨v1, v2, v3, rfl, hr1, hr2, hr3⟩ := hrep.val
  obtain ⟨a1, k1, rfl⟩ := hr1.val
  obtain ⟨a2, k2, rfl⟩ := hr2.val
  obtain ⟨a3, k3, rfl⟩ := hr3.val
  obtain ⟨b, p, rfl, hb, c0, c1, c2, c3⟩ := recs_at (RowR.recs (B' := 0) hr1) (k := 0) rfl
  have d3 : w3.cell? ⟨b, p + 3, none⟩ = some (.string ⟨#[120]⟩) := by simpa using c3
  have hlt3 : w.heap.size ≤ w3.heap.size := HB3.out.size
  clear hrep hr1 hr2 hr3 hB3 HA HB2 c0 c1 c2 c3
  dsimp only [List.length_nil, List.length_cons]
  go_wp2
  go_ret
  exact ⟨by simp, HB3.out.alloc hlt3 _⟩
end Go.Proofs.YtajllcbjgndcpaaGreatDoor
