/- WALKS: the law CacheRoom. -/
import Derived.Test.YtajllcbjgndcpaaDoorK17
namespace Go.Proofs.YtajllcbjgndcpaaDoor
open Go.RowKit Go.Maps

theorem got_live {c : Cb.Cac} {name : Lb.Bs} {kind now : Int} : (Cb.got c name kind now).isSome = true → ∃ r, Cb.got c name kind now = some r := by
  cases Cb.got c name kind now with
  | none => intro h; cases h
  | some r => intro _; exact ⟨r, rfl⟩
theorem got_none_of {c : Cb.Cac} {name : Lb.Bs} {kind now : Int} : (Cb.got c name kind now).isSome = false → Cb.got c name kind now = none := by
  cases Cb.got c name kind now with
  | none => intro _; rfl
  | some r => intro h; cases h

set_option maxHeartbeats 6400000 in
set_option maxRecDepth 100000 in
theorem cacheRoom_any (room : Int) (v : Value) (l : List St) (x : St) (w : World) (henv : Env w) (h : Steps w.heap.size w v l) (hr : -9223372036854775808 ≤ room ∧ room ≤ 9223372036854775807) :
    Calls Tryd.prog 6 #[.int .i64 room, v, .agg (stepV x).toArray] w fun e w' => e = .returned (.bool true) ∧ Below w.heap.size w w' := by
  obtain ⟨pt, nm, kd, ⟨⟨code, recs, ns, ng, neg⟩, ra, rc, sa, sc, ga, gc⟩, wt⟩ := x
  unfold stepV
  dsimp only
  have hBa : Below w.heap.size w (w.alloc (.cells #[.bool pt, .string ⟨nm.toArray⟩, .int .i64 kd, .int .i64 code, .slice ra recs.length rc, .slice sa ns sc, .slice ga ng gc, .int .i64 neg, .int .i64 wt] 33)) := (Below.refl _ w).alloc (Nat.le_refl _) _
  have hsb := heap_alloc_new w (.cells #[.bool pt, .string ⟨nm.toArray⟩, .int .i64 kd, .int .i64 code, .slice ra recs.length rc, .slice sa ns sc, .slice ga ng gc, .int .i64 neg, .int .i64 wt] 33)
  have HO := Lib.hid (cacheOf_any room v l _ (henv.later hBa) (h.up hBa) hr)
  have HBa := Lib.hid hBa
  have hq : 0 ≤ (max 0 room).tmod 8 ∧ (max 0 room).tmod 8 ≤ 7 := by
    rw [Int.tmod_eq_emod_of_nonneg (by omega)]; omega
  obtain ⟨q, hqd⟩ : ∃ q, (max 0 room).tmod 8 = q := ⟨_, rfl⟩
  rw [hqd] at hq
  have hl1 : w.heap.size < (w.alloc (.cells #[.bool pt, .string ⟨nm.toArray⟩, .int .i64 kd, .int .i64 code, .slice ra recs.length rc, .slice sa ns sc, .slice ga ng gc, .int .i64 neg, .int .i64 wt] 33)).heap.size := by simp
  have Hsb := Lib.hid hsb
  clear hBa h hr hsb
  go_enter Tryd.func6, Tryd.ntmps6
  go_wp2_with fail
  generalize w.alloc (.cells #[.bool pt, .string ⟨nm.toArray⟩, .int .i64 kd, .int .i64 code, .slice ra recs.length rc, .slice sa ns sc, .slice ga ng gc, .int .i64 neg, .int .i64 wt] 33) = w1 at *
  have hw1 : w.heap.size ≤ w1.heap.size := Nat.le_of_lt hl1
  refine HO.out.mono ?_
  rintro e w2 ⟨pb, c, xs, v, now, rfl, hC, hI, hroom, hnow, hn0, hn1, hB⟩
  rw [hqd] at hroom
  have HB2 := Lib.hid (HBa.out.trans (hB.mono hw1))
  have HF := Lib.hid (cacheFact_any w2 (henv.later HB2.out))
  have HC2 := Lib.hid hC
  have HI := Lib.hid hI
  have Hroom := Lib.hid hroom
  have Sb2 := Lib.hid ((hB.block _ hl1).trans Hsb.out)
  have hsp : w.heap.size ≠ pb := by have := hC.hpb; omega
  clear hC hI hroom hB HO
  go_wp2_with fail
  refine HF.out.mono ?_
  rintro e w3 ⟨rfl, hB⟩
  have HB3 := Lib.hid (HB2.out.trans (hB.mono HB2.out.size))
  have HC3 := Lib.hid (HC2.out.later hB)
  have hsb3 := (hB.block _ (Nat.lt_of_lt_of_le hl1 (by have := HC2.out.bs; exact this))).trans Sb2.out
  have HG := Lib.hid (get_any w3 (henv.later HB3.out) HI.out HC3.out ⟨nm.toArray⟩ kd now)
  have Sb3 := Lib.hid hsb3
  have s1 : w3.cell? ⟨w.heap.size, 1, none⟩ = some (.string ⟨nm.toArray⟩) := by rw [cell_of_row w3 _ 1 _ _ _ hsb3]; rfl
  have s2 : w3.cell? ⟨w.heap.size, 2, none⟩ = some (.int .i64 kd) := by rw [cell_of_row w3 _ 2 _ _ _ hsb3]; rfl
  clear hB HF hsb3
  go_wp2_with fail
  refine HG.out.mono ?_
  rintro e w4 ⟨⟨p4, ra4, rc4, sa4, sc4, ga4, gc4⟩, rfl, hp4, hr4, hs4, hg4, ⟨xs4, v4, hC4⟩, hF4⟩
  have HB4 := Lib.hid (HB3.out.trans (hF4.below.mono hw1))
  have Sb4 := Lib.hid (keptEnt hF4 Sb3.out hsp (by decide))
  have HI4 := Lib.hid (Cb.inv_get HI.out nm kd now)
  have hnow4 := get_now nm kd hnow
  have hroom4 := get_room c nm kd now
  unfold rpV
  dsimp only at hp4 hr4 hs4 hg4 ⊢
  have HC4 := Lib.hid (show Cch w1.heap.size pb w4 (Cb.get c nm kd now) xs4 v4 from hC4)
  have Hp4 := Lib.hid (show p4 = (Cb.got c nm kd now).getD ⟨0, [], 0, 0, 0⟩ from hp4)
  have Hr4 := Lib.hid hr4
  have Hs4 := Lib.hid hs4
  have Hg4 := Lib.hid hg4
  have hchk4 : Cb.chk c (⟨nm.toArray⟩ : ByteArray).data.toList kd now = Cb.chk c nm kd now := rfl
  have hgot4 : Cb.got c (⟨nm.toArray⟩ : ByteArray).data.toList kd now = Cb.got c nm kd now := rfl
  rw [hchk4, hgot4]
  obtain ⟨is, his⟩ : ∃ b, (Cb.got c nm kd now).isSome = b := ⟨_, rfl⟩
  rw [his]
  have His := Lib.hid his
  obtain ⟨c4, hc4⟩ : ∃ c4, Cb.get c nm kd now = c4 := ⟨_, rfl⟩
  have Hc4 := Lib.hid hc4
  rw [hc4] at HC4 HI4 hnow4 hroom4
  have Hroom4 := Lib.hid (hroom4.trans Hroom.out)
  generalize Cb.chk c nm kd now = pe4
  clear hp4 hr4 hs4 hg4 hC4 hF4 HG s1 s2 hchk4 hgot4 his hc4 hroom4
  have hB5 : Below w4.heap.size w4 (w4.alloc (.cells #[.int .i64 p4.code, .slice ra4 p4.recs.length rc4, .slice sa4 p4.ns sc4, .slice ga4 p4.ng gc4, .int .i64 p4.neg] 31)) := (Below.refl _ _).alloc (Nat.le_refl _) _
  have hrb5 := heap_alloc_new w4 (.cells #[.int .i64 p4.code, .slice ra4 p4.recs.length rc4, .slice sa4 p4.ns sc4, .slice ga4 p4.ng gc4, .int .i64 p4.neg] 31)
  have HB5 := Lib.hid (HB4.out.trans (hB5.mono HB4.out.size))
  have hlt4 : w.heap.size < w4.heap.size := (Array.getElem?_eq_some_iff.1 Sb4.out).1
  have Sb5 := Lib.hid ((hB5.block _ hlt4).trans Sb4.out)
  have HC5 := Lib.hid (HC4.out.later hB5)
  have hr5 := Hr4.out.later hB5
  have hs5 := Hs4.out.later hB5
  have hg5 := Hg4.out.later hB5
  have hrp : w4.heap.size ≠ pb := Ne.symm (Nat.ne_of_lt HC4.out.lt)
  have hpo : Cb.putErr c4 Cb.other 4 Cb.noData now = 0 := Cb.put_other hn0 (by omega) hnow4
  have hP : ∀ W, W = w4.alloc (.cells #[.int .i64 p4.code, .slice ra4 p4.recs.length rc4, .slice sa4 p4.ns sc4, .slice ga4 p4.ng gc4, .int .i64 p4.neg] 31) → Calls Tryd.prog 14 #[.pointer (some ⟨pb, 0, none⟩), .string ⟨#[111, 116, 104, 101, 114, 46]⟩, .int .i64 4, .agg #[.int .i64 4, .slice none 0 0, .slice none 0 0, .slice none 0 0, .int .i64 9], .int .i64 now]
        W (StoreEnd _ pb c4 Cb.other 4 Cb.noData now W) := fun W hW => by
      subst hW
      exact cachePut_any _ (henv.later HB5.out) HI4.out HC5.out ⟨#[111, 116, 104, 101, 114, 46]⟩ 4 now noDataRP (noData_ok _ _)
  unfold StoreEnd at hP
  rw [hpo] at hP
  have HP := Lib.hid (hP _ rfl)
  have Hrb5 := Lib.hid hrb5
  have Hr5 := Lib.hid hr5
  have Hs5 := Lib.hid hs5
  have Hg5 := Lib.hid hg5
  have Hpo := Lib.hid hpo
  clear hP hB5 hrb5 hr5 hs5 hg5 hpo
  go_wp2_with fail
  refine HP.out.mono ?_
  rintro e w6 ⟨rfl, ⟨xs6, v6, hC6⟩, hF6⟩
  have HB6 := Lib.hid (HB5.out.trans (hF6.below.mono hw1))
  have Sb6 := Lib.hid (keptEnt hF6 Sb5.out hsp (by decide))
  have Rb6 := Lib.hid (keptEnt hF6 Hrb5.out hrp (by decide))
  have Hr6 := Lib.hid (Hr5.out.fr hF6 HC5.out.noRec)
  have Hs6 := Lib.hid (Hs5.out.fr hF6 HC5.out.noRec)
  have Hg6 := Lib.hid (Hg5.out.fr hF6 HC5.out.noRec)
  have HI6 := Lib.hid (Cb.inv_put HI4.out Cb.other 4 Cb.noData now)
  have hnow6 := put_now Cb.other 4 Cb.noData hnow4
  have Hroom6 := Lib.hid ((put_room c4 Cb.other 4 Cb.noData now).trans Hroom4.out)
  have HC6 := Lib.hid hC6
  obtain ⟨c6, hc6⟩ : ∃ c6, Cb.put c4 Cb.other 4 Cb.noData now = c6 := ⟨_, rfl⟩
  have Hc6 := Lib.hid hc6
  rw [hc6] at HI6 hnow6 HC6 Hroom6
  have HS := Lib.hid (size_yes w6 (henv.later HB6.out) HC6.out now (size_chk hn0 (by omega) hnow6))
  clear hC6 hF6 HP hc6
  go_wp2_with fail
  refine HS.out.mono ?_
  rintro e w7 ⟨rfl, ⟨xs7, v7, hC7⟩, hF7⟩
  have HB7 := Lib.hid (HB6.out.trans (hF7.below.mono hw1))
  have sb7 := keptEnt hF7 Sb6.out hsp (by decide)
  have Rb7 := Lib.hid (keptEnt hF7 Rb6.out hrp (by decide))
  have Hr7 := Lib.hid (Hr6.out.fr hF7 HC6.out.noRec)
  have Hs7 := Lib.hid (Hs6.out.fr hF7 HC6.out.noRec)
  have Hg7 := Lib.hid (Hg6.out.fr hF7 HC6.out.noRec)
  have HI7 := Lib.hid (inv_live' HI6.out hnow6)
  have HC7 := Lib.hid hC7
  have Sb7 := Lib.hid sb7
  have hlen : ((Cb.live now c6.es).length : Int) ≤ 1 + q := by
    have h1 := HI7.out.room
    have h2 := Hroom6.out
    simp only at h1
    omega
  have s1 : w7.cell? ⟨w.heap.size, 1, none⟩ = some (.string ⟨nm.toArray⟩) := by rw [cell_of_row w7 _ 1 _ _ _ sb7]; rfl
  have s2 : w7.cell? ⟨w.heap.size, 2, none⟩ = some (.int .i64 kd) := by rw [cell_of_row w7 _ 2 _ _ _ sb7]; rfl
  generalize (Cb.live now c6.es).length = n at *
  clear hC7 hF7 HS sb7
  cases is with
  | false =>
    go_wp2
    go_ret
    exact ⟨rfl, HB7.out⟩
  | true =>
    by_cases hq0 : q = 0
    · have hqb : (q == 0) = true := by rw [beq_iff_eq]; exact hq0
      clear hq0
      go_wp2
      go_ret
      exact ⟨rfl, HB7.out⟩
    · have hqb : (q == 0) = false := beq_eq_false_iff_ne.2 hq0
      have Hq0 := Lib.hid hq0
      clear hq0
      by_cases hnm : nm = Cb.other
      · subst hnm
        go_wp2
        go_ret
        exact ⟨rfl, HB7.out⟩
      · have hnb : ((⟨nm.toArray⟩ : ByteArray).toList == [111, 116, 104, 101, 114, 46]) = false := by
          rw [ByteArray.toList_eq, beq_eq_false_iff_ne]; exact hnm
        have hnb2 : (nm == [111, 116, 104, 101, 114, 46]) = false := by rw [beq_eq_false_iff_ne]; exact hnm
        obtain ⟨r, hr⟩ := got_live His.out
        have hlaw := Cb.room_law HI.out hn0 (by omega) hr (by have := Hroom.out; have := Hq0.out; omega) hnm
        have hG2 : Calls Tryd.prog 15 #[.pointer (some ⟨pb, 0, none⟩), .string ⟨nm.toArray⟩, .int .i64 kd, .int .i64 now] w7 (GetEnd w1.heap.size pb ⟨c6.room, now, Cb.live now c6.es⟩ nm kd now w7) := get_any w7 (henv.later HB7.out) HI7.out HC7.out ⟨nm.toArray⟩ kd now
        rw [Hc4.out, Hc6.out] at hlaw
        have hp := Hp4.out
        rw [hr, Option.getD_some] at hp
        subst hp
        have hz : p4.ns = 0 ∧ p4.ng = 0 := by
          obtain ⟨_, k, xe, _, _, he⟩ := Cb.got_some hr
          rw [he]; exact ⟨rfl, rfl⟩
        obtain ⟨pc, prs, pns, png, pneg⟩ := p4
        obtain ⟨rfl, rfl⟩ := hz
        unfold GetEnd at hG2
        simp only [hlaw, Option.isSome_some, Option.getD_some] at hG2
        have HG2 := Lib.hid hG2
        dsimp only at Hr7 Hs7 Hg7 Rb7
        clear hG2 hr hlaw hnm
        generalize Cb.chk ⟨c6.room, now, Cb.live now c6.es⟩ nm kd now = pe8 at *
        dsimp only
        go_wp2_with fail
        refine HG2.out.mono ?_
        rintro e w8 ⟨⟨p8, ra8, rc8, sa8, sc8, ga8, gc8⟩, rfl, hp8, hr8, hs8, hg8, -, hF8⟩
        dsimp only at hp8
        subst hp8
        unfold rpV
        dsimp only at hr8 hs8 hg8 ⊢
        have HB8 := Lib.hid (HB7.out.trans (hF8.below.mono hw1))
        have hB9 : Below w8.heap.size w8 (w8.alloc (.cells #[.int .i64 pc, .slice ra8 prs.length rc8, .slice sa8 0 sc8, .slice ga8 0 gc8, .int .i64 pneg] 31)) := (Below.refl _ _).alloc (Nat.le_refl _) _
        have rb8 := keptEnt hF8 Rb7.out hrp (by decide)
        have hl8 : w4.heap.size < w8.heap.size := (Array.getElem?_eq_some_iff.1 rb8).1
        have hne8 : w4.heap.size ≠ w8.heap.size := Nat.ne_of_lt hl8
        have hc8 := fun j => cell_of_row w8 w4.heap.size j _ _ _ rb8
        have HSR := Lib.hid (sameReply_any w1.heap.size pc pc pneg pneg _ _ _ _ _ _ prs [] [] prs [] [] _ (hr8.later hB9) (hs8.later hB9) (hg8.later hB9) (((Hr7.out.fr hF8 HC7.out.noRec)).later hB9) (((Hs7.out.fr hF8 HC7.out.noRec)).later hB9) (((Hg7.out.fr hF8 HC7.out.noRec)).later hB9))
        have HB9 := Lib.hid (HB8.out.trans (hB9.mono HB8.out.size))
        clear hr8 hs8 hg8 hF8 hB9 rb8 HG2
        go_wp2_with fail
        refine HSR.out.mono ?_
        rintro e w10 ⟨rfl, hB⟩
        have HB10 := Lib.hid (HB9.out.trans (hB.mono HB9.out.size))
        clear hB HSR
        simp only [decide_true, Bool.and_true]
        go_wp2
        go_ret
        exact ⟨rfl, HB10.out⟩
end Go.Proofs.YtajllcbjgndcpaaDoor
