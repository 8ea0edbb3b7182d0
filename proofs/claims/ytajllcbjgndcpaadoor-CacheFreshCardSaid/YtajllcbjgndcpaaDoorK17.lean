/- WALKS: the law CacheTime. -/
import Derived.Test.YtajllcbjgndcpaaDoorK16
namespace Go.Proofs.YtajllcbjgndcpaaDoor
open Go.RowKit Go.Maps

theorem Recs.up {B B' : Nat} {w : World} {v : Value} {l : List Cb.Rec} (h : Recs B w v l) (hB : B ≤ B') : Recs B' w v l := by
  obtain ⟨a, cap, h1, h2, h3, h4⟩ := h
  refine ⟨a, cap, h1, h2, h3, fun hn => ?_⟩
  obtain ⟨b, o, h5, h6, h7, h8⟩ := h4 hn
  exact ⟨b, o, h5, h6, h7.imp (fun e => Nat.lt_of_lt_of_le e hB) id, h8⟩
theorem ROk.up {B B' : Nat} {w w' : World} {x : RP} (h : ROk B w x) (hb : Below w.heap.size w w') (hB : B ≤ B') : ROk B' w' x := ⟨(h.r.later hb).up hB, h.s, h.g⟩
theorem Steps.up {w w' : World} {v : Value} {l : List St} (h : Steps w.heap.size w v l) (hb : Below w.heap.size w w') : Steps w'.heap.size w' v l := by
  obtain ⟨a, cap, h1, h2, h3, h4, h5⟩ := h
  refine ⟨a, cap, h1, h2, h3, fun hn => ?_, fun x hx => (h5 x hx).up hb hb.size⟩
  obtain ⟨b, o, h6, h7, h8⟩ := h4 hn
  exact ⟨b, o, h6, Nat.lt_of_lt_of_le h7 hb.size, fun j x hx i u hu => (hb.cell (p := ⟨b, o + j * 9 + i, none⟩) h7).trans (h8 j x hx i u hu)⟩
theorem size_yes {B pb : Nat} {c : Cb.Cac} {xs : List EV} {v : Value} (w : World) (henv : Env w) (h : Cch B pb w c xs v) (now : Int) (hk : Cb.chk c [46] 1 now = 0) :
    Calls Tryd.prog 19 #[.pointer (some ⟨pb, 0, none⟩), .int .i64 now] w (fun e w' => e = .returned (.tuple #[.int .i64 ((Cb.live now c.es).length : Int), .int .i64 0]) ∧ (∃ xs' v', Cch B pb w' ⟨c.room, now, Cb.live now c.es⟩ xs' v') ∧ Fr B pb w w') :=
  (size_any w henv h now).mono fun e w' ⟨_, h2⟩ => by
    obtain ⟨h3, ⟨v', h4⟩, h5⟩ := h2 hk
    exact ⟨h3, ⟨_, v', h4⟩, h5⟩
theorem size_chk {c : Cb.Cac} {now : Int} (h0 : 0 ≤ now) (h1 : now ≤ 1000000000) (h2 : c.now ≤ now) : Cb.chk c [46] 1 now = 0 := Cb.chk_of (by decide +kernel) (by decide) (by decide) h0 h1 h2
theorem inv_live' {c : Cb.Cac} (h : Cb.Inv c) {now : Int} (hn : c.now ≤ now) : Cb.Inv ⟨c.room, now, Cb.live now c.es⟩ := Cb.inv_live h hn
def noDataRP : RP := ⟨⟨4, [], 0, 0, 9⟩, none, 0, none, 0, none, 0⟩
theorem noData_ok (B : Nat) (w : World) : ROk B w noDataRP := ⟨recs_nil _ _, ⟨Nat.le_refl _, Nat.zero_le _⟩, ⟨Nat.le_refl _, Nat.zero_le _⟩⟩
theorem old_chk {c : Cb.Cac} {now : Int} (h0 : 0 ≤ now) (h1 : now ≤ 1000000000) (h2 : now < c.now) : Cb.chk c [97, 46] 4 now = 13 := by
  unfold Cb.chk
  rw [if_neg (by decide +kernel), if_neg (by decide), if_neg (by omega), if_pos h2]

set_option maxHeartbeats 6400000 in
set_option maxRecDepth 100000 in
theorem cacheTime_any (room : Int) (v : Value) (l : List St) (x : St) (w : World) (henv : Env w) (h : Steps w.heap.size w v l) (hr : -9223372036854775808 ≤ room ∧ room ≤ 9223372036854775807) :
    Calls Tryd.prog 7 #[.int .i64 room, v, .agg (stepV x).toArray] w fun e w' => e = .returned (.bool true) ∧ Below w.heap.size w w' := by
  obtain ⟨pt, nm, kd, ⟨⟨code, recs, ns, ng, neg⟩, ra, rc, sa, sc, ga, gc⟩, wt⟩ := x
  unfold stepV
  dsimp only
  have hBa : Below w.heap.size w (w.alloc (.cells #[.bool pt, .string ⟨nm.toArray⟩, .int .i64 kd, .int .i64 code, .slice ra recs.length rc, .slice sa ns sc, .slice ga ng gc, .int .i64 neg, .int .i64 wt] 33)) := (Below.refl _ w).alloc (Nat.le_refl _) _
  have HO := Lib.hid (cacheOf_any room v l _ (henv.later hBa) (h.up hBa) hr)
  have HBa := Lib.hid hBa
  have hw1 : w.heap.size ≤ (w.alloc (.cells #[.bool pt, .string ⟨nm.toArray⟩, .int .i64 kd, .int .i64 code, .slice ra recs.length rc, .slice sa ns sc, .slice ga ng gc, .int .i64 neg, .int .i64 wt] 33)).heap.size := hBa.size
  have Hw1 := Lib.hid hw1
  clear hBa h hr hw1
  go_enter Tryd.func7, Tryd.ntmps7
  go_wp2_with fail
  refine HO.out.mono ?_
  rintro e w2 ⟨pb, c, xs, v, now, rfl, hC, hI, hroom, hnow, hn0, hn1, hB⟩
  have HB2 := Lib.hid (HBa.out.trans (hB.mono Hw1.out))
  have HF := Lib.hid (cacheFact_any w2 (henv.later HB2.out))
  have HC2 := Lib.hid hC
  have HI := Lib.hid hI
  clear hC hI hroom hB HO
  go_wp2_with fail
  refine HF.out.mono ?_
  rintro e w3 ⟨rfl, hB⟩
  have HB3 := Lib.hid (HB2.out.trans (hB.mono HB2.out.size))
  have HC3 := Lib.hid (HC2.out.later hB)
  have HS := Lib.hid (size_yes w3 (henv.later HB3.out) HC3.out now (size_chk hn0 (by omega) hnow))
  clear hB HF
  go_wp2_with fail
  refine HS.out.mono ?_
  rintro e w4 ⟨rfl, ⟨xs4, v4, hC4⟩, hF4⟩
  have HB4 := Lib.hid (HB3.out.trans (hF4.below.mono Hw1.out))
  have HI4 := Lib.hid (inv_live' HI.out hnow)
  have HC4 := Lib.hid hC4
  have Hlv := Lib.hid (Cb.live_idem now c.es)
  generalize Cb.live now c.es = es at *
  clear hC4 hF4 HS
  by_cases hz : now = 0
  · have hzb : (now == 0) = true := by rw [beq_iff_eq]; exact hz
    clear hz
    go_wp2
    go_ret
    exact ⟨rfl, HB4.out⟩
  · have hzb : (now == 0) = false := beq_eq_false_iff_ne.2 hz
    have hn0' : 1 ≤ now := by omega
    have hchk := old_chk (c := ⟨c.room, now, es⟩) (now := now - 1) (by omega) (by omega) (by show now - 1 < now; omega)
    have hgot : Cb.got ⟨c.room, now, es⟩ [97, 46] 4 (now - 1) = none := by unfold Cb.got; rw [if_pos (by rw [hchk]; decide)]
    have hget : Cb.get ⟨c.room, now, es⟩ [97, 46] 4 (now - 1) = ⟨c.room, now, es⟩ := by unfold Cb.get; rw [if_pos (by rw [hchk]; decide)]
    have hpe : Cb.putErr ⟨c.room, now, es⟩ [97, 46] 4 noDataRP.p (now - 1) = 13 := by unfold Cb.putErr; rw [if_pos (by rw [hchk]; decide), hchk]
    have hpt : Cb.put ⟨c.room, now, es⟩ [97, 46] 4 noDataRP.p (now - 1) = ⟨c.room, now, es⟩ := by unfold Cb.put; rw [if_pos (by rw [hpe]; decide)]
    have hG : Calls Tryd.prog 15 #[.pointer (some ⟨pb, 0, none⟩), .string ⟨#[97, 46]⟩, .int .i64 4, .int .i64 (now - 1)] w4 (GetEnd _ pb ⟨c.room, now, es⟩ [97, 46] 4 (now - 1) w4) := get_any w4 (henv.later HB4.out) HI4.out HC4.out ⟨#[97, 46]⟩ 4 (now - 1)
    unfold GetEnd at hG
    rw [hchk, hgot, hget] at hG
    have HG := Lib.hid hG
    have Hpe := Lib.hid hpe
    have Hpt := Lib.hid hpt
    clear hz hchk hgot hget hpe hpt hG
    go_wp2_with fail
    refine HG.out.mono ?_
    rintro e w5 ⟨⟨p, ra5, rc5, sa5, sc5, ga5, gc5⟩, rfl, hp, -, -, -, ⟨xs5, v5, hC5⟩, hF5⟩
    simp only [Option.getD_none] at hp
    subst hp
    have HB5 := Lib.hid (HB4.out.trans (hF5.below.mono Hw1.out))
    have HC5 := Lib.hid hC5
    clear hC5 hF5 HG
    unfold rpV
    dsimp only
    have hB6 : Below w5.heap.size w5 (w5.alloc (.cells #[.int .i64 0, .slice ra5 ([] : List Cb.Rec).length rc5, .slice sa5 0 sc5, .slice ga5 0 gc5, .int .i64 0] 31)) := (Below.refl _ _).alloc (Nat.le_refl _) _
    have HB6 := Lib.hid (HB5.out.trans (hB6.mono HB5.out.size))
    have hP : Calls Tryd.prog 14 #[.pointer (some ⟨pb, 0, none⟩), .string ⟨#[97, 46]⟩, .int .i64 4, .agg #[.int .i64 4, .slice none 0 0, .slice none 0 0, .slice none 0 0, .int .i64 9], .int .i64 (now - 1)]
        (w5.alloc (.cells #[.int .i64 0, .slice ra5 ([] : List Cb.Rec).length rc5, .slice sa5 0 sc5, .slice ga5 0 gc5, .int .i64 0] 31)) (StoreEnd _ pb ⟨c.room, now, es⟩ [97, 46] 4 noDataRP.p (now - 1) _) :=
      cachePut_any _ (henv.later HB6.out) HI4.out (HC5.out.later hB6) ⟨#[97, 46]⟩ 4 (now - 1) noDataRP (noData_ok _ _)
    unfold StoreEnd at hP
    rw [Hpe.out, Hpt.out] at hP
    have HP := Lib.hid hP
    clear hB6 hP
    go_wp2_with fail
    refine HP.out.mono ?_
    rintro e w7 ⟨rfl, ⟨xs7, v7, hC7⟩, hF7⟩
    have HB7 := Lib.hid (HB6.out.trans (hF7.below.mono Hw1.out))
    have hS := size_yes w7 (henv.later HB7.out) hC7 now (size_chk hn0 (by omega) (Int.le_refl now))
    simp only [Hlv.out] at hS
    have HS := Lib.hid hS
    clear hC7 hF7 HP hS
    go_wp2_with fail
    refine HS.out.mono ?_
    rintro e w8 ⟨rfl, -, hF8⟩
    have HB8 := Lib.hid (HB7.out.trans (hF8.below.mono Hw1.out))
    clear hF8 HS
    go_wp2
    go_ret
    exact ⟨rfl, HB8.out⟩
end Go.Proofs.YtajllcbjgndcpaaDoor
