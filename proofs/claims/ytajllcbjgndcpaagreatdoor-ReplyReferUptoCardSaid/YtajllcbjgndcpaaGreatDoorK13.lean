/- WALK: Put, where it stores. -/
import Derived.Test.YtajllcbjgndcpaaGreatDoorK12
import Derived.Test.YtajllcbjgndcpaaGreatDoorDue
import Derived.Deep.DeepCutAuto
import Derived.Deep.CutBlock
import Derived.Deep.AppendLies
namespace Go.Proofs.YtajllcbjgndcpaaGreatDoor
open Go.RowKit Go.Maps
section
variable {B pb : Nat} {c : Cb.Cac} {xs : List EV} {v : Value}

/-- The entries' row is another one, and the cache's slice is set. -/
theorem Cch.addRow {w w' : World} {v' : Value} {xs' : List EV} {es' : List Cb.Ent} (h : Cch B pb w c xs v) (hr : RowE B w' v' xs') (hg : w.grownBy w' v.ownBlock) (hes : xs'.map (·.e) = es') (hok : ∀ x ∈ xs', x ∈ xs ∨ EOk B w x) :
    Cch B pb (w'.setCell ⟨pb, 2, none⟩ v') ⟨c.room, c.now, es'⟩ xs' v' ∧ Fr B pb w (w'.setCell ⟨pb, 2, none⟩ v') := by
  have hf : Fr B pb w w' := Fr.grown h.row hg h.bs
  have hblk : w'.heap[pb]? = _ := (hg.block pb h.lt (Ne.symm h.vne)).trans h.blk
  have hvne : v'.ownBlock ≠ some pb := by
    intro e
    obtain ⟨_, _, cs, hcs⟩ := hr.block pb e
    rw [hblk] at hcs
    injection hcs with hcs
    injection hcs with _ hcs
    exact absurd hcs (by decide)
  have hf2 : Fr B pb w (w'.setCell ⟨pb, 2, none⟩ v') := hf.trans (Fr.setCell h.hpb _ _)
  refine ⟨⟨h.hpb, by rw [heap_setCell_same w' pb 2 _ _ _ hblk]; rfl, hr.setPb hvne _ _, hes, fun x hx => ?_⟩, hf2⟩
  rcases hok x hx with h1 | h1
  · exact (h.ok x h1).fr hf2 h.noRec
  · exact h1.fr hf2 h.noRec
theorem keptEnt {w w' : World} {k : Nat} {cs : Array Value} {t : TypeId} (hf : Fr B pb w w') (h : w.heap[k]? = some (.cells cs t (0, 0))) (hne : k ≠ pb) (ht : t ≠ 161) : w'.heap[k]? = some (.cells cs t (0, 0)) :=
  (hf.kept k (Array.getElem?_eq_some_iff.1 h).1 hne (fun cs' fr e => by rw [h] at e; injection e with e; injection e with _ e; exact ht e)).trans h
/-- What is left where there is room for one entry more. -/
def RoomEnd (B pb : Nat) (room now : Int) (es : List Cb.Ent) (w0 w' : World) : Prop := ∃ xs' v', Cch B pb w' ⟨room, now, Cb.roomFor room es⟩ xs' v' ∧ Fr B pb w0 w'
theorem below_drewN {B : Nat} {a w : World} (h : Below B a w) (n : Nat) : Below B a (w.drewN n) := ⟨h.os, h.tape, h.output, h.size, h.block⟩
theorem put_says {name : Lb.Bs} {kind now : Int} {r : Cb.Rp} (h : Cb.putErr c name kind r now = 0) : Cb.put c name kind r now = ⟨c.room, now, Cb.putE c name kind r now⟩ := by
  unfold Cb.put; rw [if_neg (by simp [h])]

set_option maxHeartbeats 6400000 in
set_option maxRecDepth 100000 in
theorem put_ok (w : World) (henv : Env w) (hI : Cb.Inv c) (h : Cch B pb w c xs v) (s : ByteArray) (kind now : Int) (x : RP) (hx : ROk B w x) (hk : Cb.chk c s.data.toList kind now = 0) (hc : ¬ (x.p.code < 1 ∨ x.p.code > 5 ∨ x.p.code = 3)) (hf : ¬ Cb.illForm x.p)
    (hl : ¬ (Cb.life x.p < 0 ∨ Cb.life x.p > 1000000 ∨ x.p.recs.any Cb.badT = true)) :
    Calls Tryz.prog 76 #[.pointer (some ⟨pb, 0, none⟩), .string s, .int .i64 kind, .agg (rpV x).toArray, .int .i64 now] w (StoreEnd B pb c s.data.toList kind x.p now w) := by
  obtain ⟨hm, h60, hs0, hg0⟩ := Cb.form_recs hf
  have hpe : Cb.putErr c s.data.toList kind x.p now = 0 := by unfold Cb.putErr; rw [if_neg (by simp [hk]), if_neg hc, if_neg hf, if_neg hl]
  have hps := put_says hpe
  have Hpe := Lib.hid hpe
  have Hps := Lib.hid hps
  have HI := Lib.hid hI
  obtain ⟨-, -, -, hn0, hn1, -⟩ := Cb.chk_ok hk
  clear hpe hps hI
  have hL := fun w' (hb : Below w.heap.size w w') => life_any B x w' (hx.later hb)
  have hA := fun w' (hb : Below w.heap.size w w') => contains_any B x.ra x.rc x.p.recs w' (hx.r.later hb)
  obtain ⟨⟨code, recs, ns, ng, neg⟩, ra, rc, sa, sc, ga, gc⟩ := x
  unfold rpV at *
  simp only at hc hm h60 hs0 hg0 hL hA hl ⊢
  subst hs0 hg0
  have hBa : Below w.heap.size w (w.alloc (.cells #[.int .i64 code, .slice ra recs.length rc, .slice sa 0 sc, .slice ga 0 gc, .int .i64 neg] 39)) := (Below.refl _ w).alloc (Nat.le_refl _) _
  have HC := check_cache_any _ (henv.later hBa) (h.later hBa) s kind now
  rw [hk] at HC
  have hHC := HC
  clear HC
  have HC := Lib.hid hHC
  clear hHC
  have HL := Lib.hid hL
  have HA := Lib.hid hA
  have hcode : code = 1 ∨ code = 2 ∨ code = 4 ∨ code = 5 := by omega
  have Hcode := Lib.hid hcode
  have hc1 : ¬ code < 1 := by omega
  have hc2 : ¬ code > 5 := by omega
  have hc3 : (code == 3) = false := by rw [beq_eq_false_iff_ne]; omega
  have Hm := Lib.hid hm
  have Hl := Lib.hid hl
  obtain ⟨q, hq⟩ : ∃ q, q = Cb.life ⟨code, recs, 0, 0, neg⟩ := ⟨_, rfl⟩
  rw [← hq] at HL hl
  have Hq := Lib.hid hq
  have hq0 : ¬ q < 0 := by omega
  have hq1 : ¬ q > 1000000 := by omega
  have hbad : recs.any Cb.badT = false := by cases hb : recs.any Cb.badT with
    | false => rfl
    | true => exact absurd (.inr (.inr hb)) hl
  rw [hbad] at HA
  clear hq hbad
  have Hf := Lib.hid hf
  have Hx := Lib.hid hx
  have H0 := Lib.hid h
  clear hf hx hL hA hcode hm hc hl h hk
  go_enter Tryz.func76, Tryz.ntmps76
  go_wp2_with fail
  refine HC.out.mono ?_
  rintro e w1 ⟨rfl, hB⟩
  have bx := box_cells hB
  have Rb1 := Lib.hid ((hB.block w.heap.size (by simp)).trans (heap_alloc_new w _))
  have hB1 := hBa.trans (hB.mono hBa.size)
  have hlt1 : w.heap.size < w1.heap.size := by have := hB.size; simp at this; omega
  clear HC
  go_upto_block 0 with fail
  go_cut [] (fun wx => wx = w1)
  case first =>
    clear hc1 hc2 hc3
    have hm := Hm.out
    rcases Hcode.out with rfl | rfl | rfl | rfl
    all_goals generalize hn : recs.length = n at *
    all_goals clear hn
    all_goals first | (have hl : decide (0 < n) = false := by rw [decide_eq_false_iff_not]; omega) | (have hl : decide (0 < n) = true := by rw [decide_eq_true_iff]; omega)
    all_goals clear hm
    all_goals (go_wp2; go_meet; rfl)
  case rest =>
    subst hcut
    go_wp2_with fail
    refine (HL.out _ hB1).mono ?_
    rintro e w2 ⟨rfl, hb2⟩
    have hB2 := hB1.trans (hb2.mono hB1.size)
    have Rb2 := Lib.hid ((hb2.block w.heap.size hlt1).trans Rb1.out)
    have bx2 := fun j => (hb2.cell (p := ⟨w.heap.size, j, none⟩) hlt1).trans (bx j)
    have hlt2 : w.heap.size < w2.heap.size := Nat.lt_of_lt_of_le hlt1 hb2.size
    clear bx HL hb2
    go_wp2_with fail
    refine (HA.out _ hB2).mono ?_
    rintro e w3 ⟨rfl, hb3⟩
    have hB3 := hB2.trans (hb3.mono hB2.size)
    have Rb3 := Lib.hid ((hb3.block w.heap.size hlt2).trans Rb2.out)
    have bx3 := fun j => (hb3.cell (p := ⟨w.heap.size, j, none⟩) hlt2).trans (bx2 j)
    have hlt3 : w.heap.size < w3.heap.size := Nat.lt_of_lt_of_le hlt2 hb3.size
    clear bx2 HA hb3 Rb1 Rb2
    go_wp2_with fail
    refine (expire_any w3 (H0.out.later hB3) now).mono ?_
    rintro e w4 ⟨rfl, ⟨v1, hC1⟩, hF1⟩
    have hB4 := hF1.below
    have hqb := hC1.bs
    have hpne : w.heap.size ≠ pb := Ne.symm (Nat.ne_of_lt H0.out.lt)
    have Rb4 := Lib.hid (keptEnt hF1 Rb3.out hpne (by decide))
    have bx4 := fun j => cell_of_row w4 w.heap.size j _ _ _ Rb4.out
    have HF1 := Lib.hid hF1
    have HC1 := Lib.hid hC1
    obtain ⟨kd, hkd⟩ : ∃ kd, kd = Cb.kindOf ⟨code, recs, 0, 0, neg⟩ kind := ⟨_, rfl⟩
    have Hkd := Lib.hid hkd
    have Hcode5 := Lib.hid (show kd = if code = 5 then 0 else kind from hkd)
    clear hkd
    clear hC1 bx3 hB4 hqb
    have hlt4 : w.heap.size < w4.heap.size := Nat.lt_of_lt_of_le hlt3 hF1.below.size
    have hne4 : w.heap.size ≠ w4.heap.size := Nat.ne_of_lt hlt4
    clear hF1
    go_upto_if 83 with fail
    go_cut [] (fun wx => wx = w4.alloc (.cells #[.string s, .int .i64 kd] 157))
    case first =>
      by_cases h5 : code = 5
      · have h5' : (code == 5) = true := by rw [beq_iff_eq]; exact h5
        have hkd : kd = 0 := by rw [Hcode5.out, if_pos h5]
        have Hkd0 := Lib.hid hkd
        clear hkd
        go_wp2
        go_meet
        rw [Hkd0.out]
      · have hkd : kd = kind := by rw [Hcode5.out, if_neg h5]
        have Hkd0 := Lib.hid hkd
        clear hkd
        have h5' : (code == 5) = false := beq_eq_false_iff_ne.2 h5
        go_wp2
        go_meet
        rw [Hkd0.out]
    case rest =>
      subst hcut
      have HQ := heap_alloc_new w4 (.cells #[.string s, .int .i64 kd] 157)
      have hC5 : Cch B pb (w4.alloc (.cells #[.string s, .int .i64 kd] 157)) _ _ v1 := HC1.out.later ((Below.refl _ _).alloc (Nat.le_refl _) _)
      have hcap : ∀ W, (w4.alloc (.cells #[.string s, .int .i64 kd] 157)).grownBy W v1.ownBlock → W.heap[w4.heap.size]? = some (.cells #[.string s, .int .i64 kd] 157 (0, 0)) := by
        intro W hW
        have hvb : some w4.heap.size ≠ v1.ownBlock := by
          intro e
          obtain ⟨_, hl, _⟩ := HC1.out.row.block _ e.symm
          omega
        exact (hW.block w4.heap.size (by simp) hvb).trans HQ
      have hes : ((liveX now xs).filter (fun x => !Cb.isQ s.data.toList kd x.e)).map (·.e) = (Cb.live now c.es).filter (fun x => !Cb.isQ s.data.toList kd x) := by
        have h9 : (liveX now xs).map (·.e) = Cb.live now c.es := HC1.out.es
        rw [← h9, List.filter_map]; rfl
      have hD := deleteFunc_any B 120 #[.pointer (some ⟨w4.heap.size, 0, none⟩)] (fun x => Cb.isQ s.data.toList kd x.e) v1 _ _ enters33 (fun W x hW => put2_any x w4.heap.size s kd W (by rw [cell_of_row W _ 0 _ _ _ (hcap W hW)]; rfl) (by rw [cell_of_row W _ 1 _ _ _ (hcap W hW)]; rfl)) hC5.row
      have hsub : ∀ x ∈ (liveX now xs).filter (fun x => !Cb.isQ s.data.toList kd x.e), x ∈ liveX now xs := fun x hx => (List.mem_filter.1 hx).1
      generalize (liveX now xs).filter (fun x => !Cb.isQ s.data.toList kd x.e) = xs1 at hes hD hsub
      have hsm : ((Cb.live now c.es).filter (fun x => !Cb.isQ s.data.toList kd x)).length ≤ 40 := by
        have h1 : ((Cb.live now c.es).filter (fun x => !Cb.isQ s.data.toList kd x)).length ≤ (Cb.live now c.es).length := List.length_filter_le _ _
        have h2 : (Cb.live now c.es).length ≤ c.es.length := List.length_filter_le _ _
        have := HI.out.room
        have := HI.out.small
        omega
      have hput : Cb.put c s.data.toList kind ⟨code, recs, 0, 0, neg⟩ now = ⟨c.room, now, if q = 0 then (Cb.live now c.es).filter (fun x => !Cb.isQ s.data.toList kd x) else Cb.lay c.room ((Cb.live now c.es).filter (fun x => !Cb.isQ s.data.toList kd x)) ⟨s.data.toList, kd, code, recs, neg, now, now + q⟩⟩ := by
        rw [Hps.out, Hq.out, Hkd.out]; rfl
      generalize (Cb.live now c.es).filter (fun x => !Cb.isQ s.data.toList kd x) = es1 at hes hsm hput
      have Hsub := Lib.hid hsub
      have Hput := Lib.hid hput
      have Hsm := Lib.hid hsm
      have hxl : xs1.length = es1.length := by rw [← hes, List.length_map]
      have Hes := Lib.hid hes
      have HD := Lib.hid hD
      have Hcap := Lib.hid hcap
      have HC5 := Lib.hid hC5
      have c2 := HC1.out.c2
      have hplt : pb < w4.heap.size := HC1.out.lt
      have hpq : pb ≠ w4.heap.size := Nat.ne_of_lt HC1.out.lt
      have hqp : w4.heap.size ≠ pb := Ne.symm hpq
      have Hxl := Lib.hid hxl
      clear HQ hcap hC5 bx4 hes hD hsub hput hsm hxl
      go_wp2_with fail
      refine HD.out.mono ?_
      rintro e w6 ⟨v', rfl, hr, hv, hg⟩
      obtain ⟨a6, cp6, rfl, _⟩ := hr.val
      obtain ⟨hC, hF⟩ := HC5.out.setRow hr hv hg Hes.out Hsub.out
      have j2 : w6.cell? ⟨pb, 2, none⟩ = some v1 := (World.cell?_of_block (hg.block pb HC5.out.lt (Ne.symm HC5.out.vne))).trans HC5.out.c2
      have jf : w6.frozen? ⟨pb, 2, none⟩ = false := (World.frozen?_of_block (hg.block pb HC5.out.lt (Ne.symm HC5.out.vne))).trans (HC5.out.fz 2)
      have Qb7 := Lib.hid (keptEnt hF (heap_alloc_new w4 (.cells #[.string s, .int .i64 kd] 157)) hqp (by decide))
      have Rb7 := Lib.hid (keptEnt hF ((Below.heap_alloc w4 (.cells #[.string s, .int .i64 kd] 157) _ hlt4).trans Rb4.out) hpne (by decide))
      have F7 := Lib.hid ((HF1.out.trans (Fr.alloc HC1.out.bs _)).trans hF)
      have HC := Lib.hid hC
      clear hr hv hg hC hF HD Hcap
      by_cases hq0' : q = 0
      · have hqb : (q == 0) = true := by rw [beq_iff_eq]; exact hq0'
        have Hq0 := Lib.hid hq0'
        clear hq0'
        have hend : StoreEnd B pb c s.data.toList kind ⟨code, recs, 0, 0, neg⟩ now w (.returned (.int .i64 0)) (w6.setCell ⟨pb, 2, none⟩ (.slice a6 xs1.length cp6)) := by
          refine ⟨by rw [Hpe.out], ⟨xs1, .slice a6 xs1.length cp6, ?_⟩, (Fr.of_below hB3 H0.out.bs).trans F7.out⟩
          rw [Hput.out, if_pos Hq0.out]
          exact HC.out
        have Hend := Lib.hid hend
        clear hend
        go_wp2
        go_ret
        exact Hend.out
      · have hqb : (q == 0) = false := beq_eq_false_iff_ne.2 hq0'
        have Hq0 := Lib.hid hq0'
        clear hq0'
        go_upto_region 21 with fail
        generalize w6.setCell ⟨pb, 2, none⟩ (.slice a6 xs1.length cp6) = w7 at *
        have k2 : w7.cell? ⟨pb, 2, none⟩ = some (.slice a6 xs1.length cp6) := HC.out.c2
        have k0 : w7.cell? ⟨pb, 0, none⟩ = some (.int .i64 c.room) := HC.out.c0
        clear c2 j2 jf
        go_quiet (fail)
        go_upto_if 105 with fail
        go_cut [] (fun wx => RoomEnd B pb c.room now es1 w7 wx)
        case first =>
          have HC8 := Lib.hid (HC.out.later (below_drewN (Below.refl _ _) nq))
          have F8 := Lib.hid (Fr.of_below (B := B) (pb := pb) (below_drewN (Below.refl _ w7) nq) HC.out.bs)
          have j0 : (w7.drewN nq).cell? ⟨pb, 2, none⟩ = some (.slice a6 xs1.length cp6) := k2
          generalize w7.drewN nq = w8 at *
          by_cases hfull : (xs1.length : Int) = c.room
          · have hb : ((xs1.length : Int) == c.room) = true := by rw [beq_iff_eq]; exact hfull
            have h0 : 0 < xs1.length := by have := HI.out.pos; omega
            have hD2 : Calls Tryz.prog 114 #[.slice a6 xs1.length cp6, .int .i64 0, .int .i64 1] w8 (DelEnd B w8 (.slice a6 xs1.length cp6) (xs1.eraseIdx 0)) := delete_any B _ xs1 0 w8 HC8.out.row h0
            have HD2 := Lib.hid hD2
            have Hfull := Lib.hid hfull
            clear hfull hD2 h0
            go_wp2_with fail
            refine HD2.out.mono ?_
            rintro e w9 ⟨v', rfl, hr, hv, hg⟩
            have hes9 : (xs1.eraseIdx 0).map (·.e) = es1.drop 1 := by rw [List.eraseIdx_zero, List.map_tail, Hes.out, List.drop_one]
            have hsub9 : ∀ x ∈ xs1.eraseIdx 0, x ∈ xs1 := fun x hx => List.mem_of_mem_eraseIdx hx
            generalize xs1.eraseIdx 0 = xs9 at hr hes9 hsub9
            obtain ⟨a9, cp9, rfl, _⟩ := hr.val
            obtain ⟨hC, hF⟩ := HC8.out.setRow hr hv hg hes9 hsub9
            have i2 : w9.cell? ⟨pb, 2, none⟩ = some (.slice a6 xs1.length cp6) := (World.cell?_of_block (hg.block pb HC8.out.lt (Ne.symm HC8.out.vne))).trans j0
            have jf : w9.frozen? ⟨pb, 2, none⟩ = false := (World.frozen?_of_block (hg.block pb HC8.out.lt (Ne.symm HC8.out.vne))).trans (HC8.out.fz 2)
            have hend : RoomEnd B pb c.room now es1 w7 (w9.setCell ⟨pb, 2, none⟩ (.slice a9 xs9.length cp9)) := by
              refine ⟨xs9, .slice a9 xs9.length cp9, ?_, F8.out.trans hF⟩
              unfold Cb.roomFor
              rw [if_pos (by rw [← Hxl.out]; exact Hfull.out)]
              exact hC
            have Hend := Lib.hid hend
            clear hend hC hF hes9 hsub9 hr hv hg HD2
            go_wp2
            go_meet
            exact Hend.out
          · have hb : ((xs1.length : Int) == c.room) = false := beq_eq_false_iff_ne.2 hfull
            have hend : RoomEnd B pb c.room now es1 w7 w8 := by
              refine ⟨xs1, .slice a6 xs1.length cp6, ?_, F8.out⟩
              unfold Cb.roomFor
              rw [if_neg (by rw [← Hxl.out]; exact hfull)]
              exact HC8.out
            have Hend := Lib.hid hend
            clear hend hfull
            go_wp2
            go_meet
            exact Hend.out
        case rest =>
          obtain ⟨xs2, v2, hC2, hF2⟩ := hcut
          obtain ⟨a2, cp2, rfl, hcp2, hcm2, _⟩ := hC2.row.val
          have rb2 := keptEnt hF2 Rb7.out hpne (by decide)
          have qb2 := keptEnt hF2 Qb7.out hqp (by decide)
          have F2 := (Fr.of_below (pb := pb) hB3 H0.out.bs).trans (F7.out.trans hF2)
          have hx2 : ROk B wc _ := ⟨Hx.out.r.later hB3 |>.fr (F7.out.trans hF2) (H0.out.later hB3).noRec, Hx.out.s, Hx.out.g⟩
          have Rb := Lib.hid rb2
          have Qb := Lib.hid qb2
          have HF := Lib.hid F2
          have hs0 : Recs B wc (.slice sa 0 sc) [] := ⟨sa, sc, rfl, Nat.zero_le _, Hx.out.s.2, fun h => absurd rfl h⟩
          have hg0 : Recs B wc (.slice ga 0 gc) [] := ⟨ga, gc, rfl, Nat.zero_le _, Hx.out.g.2, fun h => absurd rfl h⟩
          have HCL := Lib.hid (fun W (hW : Below wc.heap.size wc W) => cloneReply_any B ⟨⟨code, recs, 0, 0, neg⟩, ra, rc, sa, sc, ga, gc⟩ W (hx2.later hW) rfl rfl (Nat.le_trans h60 (by decide)) (hs0.later hW) (hg0.later hW))
          have hlen2 : xs2.length ≤ 40 := by
            have : xs2.length = (Cb.roomFor c.room es1).length := by rw [← List.length_map (f := fun x : EV => x.e), hC2.es]
            have h2 : (Cb.roomFor c.room es1).length ≤ es1.length := by unfold Cb.roomFor; split <;> simp
            have := Hsm.out
            omega
          have HC2 := Lib.hid hC2
          clear rb2 qb2 F2 hx2 hs0 hg0 hC2 hF2 k2 k0
          obtain ⟨i0, hi0, hz0, hz1, hz2⟩ := info_parts info75
          have Hq9 := Lib.hid (show IntKind.i64.wrap (now + q) = now + q from IntWalk.i64_in _ (by omega))
          go_upto_region 23 with fail
          have hS1 : (fun W => W.cell? ⟨pb, 2, none⟩ = some (.slice a2 xs2.length cp2) ∧ W.cell? ⟨w4.heap.size, 0, none⟩ = some (.string s) ∧ W.cell? ⟨w4.heap.size, 1, none⟩ = some (.int .i64 kd) ∧
              W.cell? ⟨w.heap.size, 0, none⟩ = some (.int .i64 code) ∧ W.cell? ⟨w.heap.size, 1, none⟩ = some (.slice ra recs.length rc) ∧ W.cell? ⟨w.heap.size, 2, none⟩ = some (.slice sa 0 sc) ∧ W.cell? ⟨w.heap.size, 3, none⟩ = some (.slice ga 0 gc) ∧ W.cell? ⟨w.heap.size, 4, none⟩ = some (.int .i64 neg)) wc.drew :=
            ⟨HC2.out.c2, by show wc.cell? _ = _; rw [cell_of_row wc _ 0 _ _ _ Qb.out]; rfl, by show wc.cell? _ = _; rw [cell_of_row wc _ 1 _ _ _ Qb.out]; rfl, by show wc.cell? _ = _; rw [cell_of_row wc _ 0 _ _ _ Rb.out]; rfl, by show wc.cell? _ = _; rw [cell_of_row wc _ 1 _ _ _ Rb.out]; rfl, by show wc.cell? _ = _; rw [cell_of_row wc _ 2 _ _ _ Rb.out]; rfl, by show wc.cell? _ = _; rw [cell_of_row wc _ 3 _ _ _ Rb.out]; rfl, by show wc.cell? _ = _; rw [cell_of_row wc _ 4 _ _ _ Rb.out]; rfl⟩
          refine wp_region_due [0, 1, 2, 3, 4, 5, 6, 7, 8, 9, 10, 11, 12, 13, 14] (fun W => W.cell? ⟨pb, 2, none⟩ = some (.slice a2 xs2.length cp2) ∧ W.cell? ⟨w4.heap.size, 0, none⟩ = some (.string s) ∧ W.cell? ⟨w4.heap.size, 1, none⟩ = some (.int .i64 kd) ∧
              W.cell? ⟨w.heap.size, 0, none⟩ = some (.int .i64 code) ∧ W.cell? ⟨w.heap.size, 1, none⟩ = some (.slice ra recs.length rc) ∧ W.cell? ⟨w.heap.size, 2, none⟩ = some (.slice sa 0 sc) ∧ W.cell? ⟨w.heap.size, 3, none⟩ = some (.slice ga 0 gc) ∧ W.cell? ⟨w.heap.size, 4, none⟩ = some (.int .i64 neg)) (by kernel_rfl) ?_
          refine wpDue_take (i := 0) (v := ?_) rfl (by kernel_rfl) (by kernel_rfl) (by kernel_rfl) (by kernel_rfl) (fun _ _ _ h => h) hS1 (.inl ⟨by rfl, ?_⟩) ?_
          rotate_left
          · intro W hW; (try dsimp only at hW); go_simp; try with_reducible rfl
          try simp only [Act.put]
          try simp only [List.setIfInBounds_toArray]
          try simp only [List.set_cons_succ]
          try simp only [List.set_cons_zero]
          refine wpDue_take (i := 1) (v := ?_) rfl (by kernel_rfl) (by kernel_rfl) (by kernel_rfl) (by kernel_rfl) (fun _ _ _ h => h) hS1 (.inl ⟨by rfl, ?_⟩) ?_
          rotate_left
          · intro W hW; (try dsimp only at hW); go_simp; try with_reducible rfl
          try simp only [Act.put]
          try simp only [List.setIfInBounds_toArray]
          try simp only [List.set_cons_succ]
          try simp only [List.set_cons_zero]
          refine wpDue_take (i := 2) (v := ?_) rfl (by kernel_rfl) (by kernel_rfl) (by kernel_rfl) (by kernel_rfl) (fun _ _ _ h => h) hS1 (.inl ⟨by rfl, ?_⟩) ?_
          rotate_left
          · intro W hW; (try dsimp only at hW); go_simp; try with_reducible rfl
          try simp only [Act.put]
          try simp only [List.setIfInBounds_toArray]
          try simp only [List.set_cons_succ]
          try simp only [List.set_cons_zero]
          refine wpDue_take (i := 3) (v := ?_) rfl (by kernel_rfl) (by kernel_rfl) (by kernel_rfl) (by kernel_rfl) (fun _ _ _ h => h) hS1 (.inl ⟨by rfl, ?_⟩) ?_
          rotate_left
          · intro W hW; (try dsimp only at hW); go_simp; try with_reducible rfl
          try simp only [Act.put]
          try simp only [List.setIfInBounds_toArray]
          try simp only [List.set_cons_succ]
          try simp only [List.set_cons_zero]
          refine wpDue_take (i := 4) (v := ?_) rfl (by kernel_rfl) (by kernel_rfl) (by kernel_rfl) (by kernel_rfl) (fun _ _ _ h => h) hS1 (.inl ⟨by rfl, ?_⟩) ?_
          rotate_left
          · intro W hW; (try dsimp only at hW); go_simp; try with_reducible rfl
          try simp only [Act.put]
          try simp only [List.setIfInBounds_toArray]
          try simp only [List.set_cons_succ]
          try simp only [List.set_cons_zero]
          refine wpDue_take (i := 5) (v := ?_) rfl (by kernel_rfl) (by kernel_rfl) (by kernel_rfl) (by kernel_rfl) (fun _ _ _ h => h) hS1 (.inl ⟨by rfl, ?_⟩) ?_
          rotate_left
          · intro W hW; (try dsimp only at hW); go_simp; try with_reducible rfl
          try simp only [Act.put]
          try simp only [List.setIfInBounds_toArray]
          try simp only [List.set_cons_succ]
          try simp only [List.set_cons_zero]
          refine wpDue_take (i := 6) (v := ?_) rfl (by kernel_rfl) (by kernel_rfl) (by kernel_rfl) (by kernel_rfl) (fun _ _ _ h => h) hS1 (.inl ⟨by rfl, ?_⟩) ?_
          rotate_left
          · intro W hW; (try dsimp only at hW); go_simp; try with_reducible rfl
          try simp only [Act.put]
          try simp only [List.setIfInBounds_toArray]
          try simp only [List.set_cons_succ]
          try simp only [List.set_cons_zero]
          refine wpDue_take (i := 8) (v := ?_) rfl (by kernel_rfl) (by kernel_rfl) (by kernel_rfl) (by kernel_rfl) (fun _ _ _ h => h) hS1 (.inl ⟨by rfl, ?_⟩) ?_
          rotate_left
          · intro W hW; (try dsimp only at hW); go_simp; try with_reducible rfl
          try simp only [Act.put]
          try simp only [List.setIfInBounds_toArray]
          try simp only [List.set_cons_succ]
          try simp only [List.set_cons_zero]
          refine wpDue_take (i := 9) (v := ?_) rfl (by kernel_rfl) (by kernel_rfl) (by kernel_rfl) (by kernel_rfl) (fun _ _ _ h => h) hS1 (.inl ⟨by rfl, ?_⟩) ?_
          rotate_left
          · intro W hW; (try dsimp only at hW); go_simp; try with_reducible rfl
          try simp only [Act.put]
          try simp only [List.setIfInBounds_toArray]
          try simp only [List.set_cons_succ]
          try simp only [List.set_cons_zero]
          refine wpDue_take (i := 10) (v := ?_) rfl (by kernel_rfl) (by kernel_rfl) (by kernel_rfl) (by kernel_rfl) (fun _ _ _ h => h) hS1 (.inl ⟨by rfl, ?_⟩) ?_
          rotate_left
          · intro W hW; (try dsimp only at hW); go_simp; try with_reducible rfl
          try simp only [Act.put]
          try simp only [List.setIfInBounds_toArray]
          try simp only [List.set_cons_succ]
          try simp only [List.set_cons_zero]
          refine wpDue_take (i := 11) (v := ?_) rfl (by kernel_rfl) (by kernel_rfl) (by kernel_rfl) (by kernel_rfl) (fun _ _ _ h => h) hS1 (.inl ⟨by rfl, ?_⟩) ?_
          rotate_left
          · intro W hW; (try dsimp only at hW); go_simp; try with_reducible rfl
          try simp only [Act.put]
          try simp only [List.setIfInBounds_toArray]
          try simp only [List.set_cons_succ]
          try simp only [List.set_cons_zero]
          refine wpDue_one (i := 7) (by kernel_rfl) rfl (fun K hK => ?_)
          have HK := Lib.hid hK
          clear hK
          go_simp
          refine (HCL.out _ ((Below.refl _ wc).drew)).mono ?_
          rintro e w8 ⟨ra', rc', sa', sc', ga', gc', rfl, hR, hS, hG, hb⟩
          dsimp only at hR hS hG hb ⊢
          have hb8 : Below wc.heap.size wc w8 := ((Below.refl wc.heap.size wc).drew).trans hb
          have HR8 := Lib.hid (show RowR wc.heap.size w8 (.slice ra' recs.length rc') recs from hR)
          have HS8 := Lib.hid (show RowR wc.heap.size w8 (.slice sa' 0 sc') [] from hS)
          have HG8 := Lib.hid (show RowR wc.heap.size w8 (.slice ga' 0 gc') [] from hG)
          have Hb8 := Lib.hid hb8
          have hrl : w.heap.size < wc.heap.size := (Array.getElem?_eq_some_iff.1 Rb.out).1
          have hql : w4.heap.size < wc.heap.size := (Array.getElem?_eq_some_iff.1 Qb.out).1
          have hpl : pb < wc.heap.size := HC2.out.lt
          have Rb8 := Lib.hid ((hb8.block _ hrl).trans Rb.out)
          have Qb8 := Lib.hid ((hb8.block _ hql).trans Qb.out)
          have h08 : wc.heap.size ≤ w8.heap.size := hb8.size
          have HC8 := Lib.hid (HC2.out.later hb8)
          clear hR hS hG hb hb8
          have hS8 : w8.cell? ⟨pb, 2, none⟩ = some (.slice a2 xs2.length cp2) ∧ w8.cell? ⟨w4.heap.size, 0, none⟩ = some (.string s) ∧ w8.cell? ⟨w4.heap.size, 1, none⟩ = some (.int .i64 kd) ∧
              w8.cell? ⟨w.heap.size, 0, none⟩ = some (.int .i64 code) ∧ w8.cell? ⟨w.heap.size, 1, none⟩ = some (.slice ra recs.length rc) ∧ w8.cell? ⟨w.heap.size, 2, none⟩ = some (.slice sa 0 sc) ∧ w8.cell? ⟨w.heap.size, 3, none⟩ = some (.slice ga 0 gc) ∧ w8.cell? ⟨w.heap.size, 4, none⟩ = some (.int .i64 neg) :=
            ⟨HC8.out.c2, by rw [cell_of_row w8 _ 0 _ _ _ Qb8.out]; rfl, by rw [cell_of_row w8 _ 1 _ _ _ Qb8.out]; rfl, by rw [cell_of_row w8 _ 0 _ _ _ Rb8.out]; rfl, by rw [cell_of_row w8 _ 1 _ _ _ Rb8.out]; rfl, by rw [cell_of_row w8 _ 2 _ _ _ Rb8.out]; rfl, by rw [cell_of_row w8 _ 3 _ _ _ Rb8.out]; rfl, by rw [cell_of_row w8 _ 4 _ _ _ Rb8.out]; rfl⟩
          refine HK.out _ _ (fun _ => hS8) ?_
          clear HK K
          try simp only [Act.put]
          try simp only [List.setIfInBounds_toArray]
          try simp only [List.set_cons_succ]
          try simp only [List.set_cons_zero]
          refine wpDue_one (i := 12) (by kernel_rfl) rfl (fun K hK => ?_)
          have HK := Lib.hid hK
          clear hK
          go_simp
          refine HK.out _ _ (fun _ => hS8) ?_
          clear HK K
          try simp only [Act.put]
          try simp only [List.setIfInBounds_toArray]
          try simp only [List.set_cons_succ]
          try simp only [List.set_cons_zero]
          refine wpDue_one (i := 13) (by kernel_rfl) rfl (fun K hK => ?_)
          have HK := Lib.hid hK
          clear hK
          go_simp
          rw [Hq9.out]
          have hnew := heap_alloc_new w8 (.cells #[.string s, .int .i64 kd, .int .i64 code, .slice ra' recs.length rc', .slice sa' 0 sc', .slice ga' 0 gc', .int .i64 neg, .int .i64 now, .int .i64 (now + q)] 161)
          have hBn : Below w8.heap.size w8 (w8.alloc (.cells #[.string s, .int .i64 kd, .int .i64 code, .slice ra' recs.length rc', .slice sa' 0 sc', .slice ga' 0 gc', .int .i64 neg, .int .i64 now, .int .i64 (now + q)] 161)) := (Below.refl _ _).alloc (Nat.le_refl _) _
          have hsz9 : (w8.alloc (.cells #[.string s, .int .i64 kd, .int .i64 code, .slice ra' recs.length rc', .slice sa' 0 sc', .slice ga' 0 gc', .int .i64 neg, .int .i64 now, .int .i64 (now + q)] 161)).heap.size = w8.heap.size + 1 := by simp
          generalize w8.alloc (.cells #[.string s, .int .i64 kd, .int .i64 code, .slice ra' recs.length rc', .slice sa' 0 sc', .slice ga' 0 gc', .int .i64 neg, .int .i64 now, .int .i64 (now + q)] 161) = w9 at *
          have hrl8 := Nat.lt_of_lt_of_le hrl h08
          have hql8 := Nat.lt_of_lt_of_le hql h08
          have Hsz9 := Lib.hid hsz9
          have Rb9 := Lib.hid ((hBn.block _ hrl8).trans Rb8.out)
          have Qb9 := Lib.hid ((hBn.block _ hql8).trans Qb8.out)
          have HC9 := Lib.hid (HC8.out.later hBn)
          have HN := Lib.hid hnew
          have HBn := Lib.hid hBn
          clear hS8 hnew hBn hsz9
          have hS9 : w9.cell? ⟨pb, 2, none⟩ = some (.slice a2 xs2.length cp2) ∧ w9.cell? ⟨w4.heap.size, 0, none⟩ = some (.string s) ∧ w9.cell? ⟨w4.heap.size, 1, none⟩ = some (.int .i64 kd) ∧
              w9.cell? ⟨w.heap.size, 0, none⟩ = some (.int .i64 code) ∧ w9.cell? ⟨w.heap.size, 1, none⟩ = some (.slice ra recs.length rc) ∧ w9.cell? ⟨w.heap.size, 2, none⟩ = some (.slice sa 0 sc) ∧ w9.cell? ⟨w.heap.size, 3, none⟩ = some (.slice ga 0 gc) ∧ w9.cell? ⟨w.heap.size, 4, none⟩ = some (.int .i64 neg) :=
            ⟨HC9.out.c2, by rw [cell_of_row w9 _ 0 _ _ _ Qb9.out]; rfl, by rw [cell_of_row w9 _ 1 _ _ _ Qb9.out]; rfl, by rw [cell_of_row w9 _ 0 _ _ _ Rb9.out]; rfl, by rw [cell_of_row w9 _ 1 _ _ _ Rb9.out]; rfl, by rw [cell_of_row w9 _ 2 _ _ _ Rb9.out]; rfl, by rw [cell_of_row w9 _ 3 _ _ _ Rb9.out]; rfl, by rw [cell_of_row w9 _ 4 _ _ _ Rb9.out]; rfl⟩
          refine HK.out _ _ (fun _ => hS9) ?_
          clear HK K
          try simp only [Act.put]
          try simp only [List.setIfInBounds_toArray]
          try simp only [List.set_cons_succ]
          try simp only [List.set_cons_zero]
          refine wpDue_one (i := 14) (by kernel_rfl) rfl (fun K hK => ?_)
          have HK := Lib.hid hK
          clear hK
          have hone : ∀ u ∈ entV ⟨⟨s.data.toList, kd, code, recs, neg, now, now + q⟩, ra', rc', sa', sc', ga', gc'⟩, u.oneCell' = true := by
            intro u hu; simp only [entV, List.mem_cons, List.not_mem_nil, or_false] at hu
            rcases hu with rfl | rfl | rfl | rfl | rfl | rfl | rfl | rfl | rfl <;> rfl
          have hnews : ∀ j u, (entV ⟨⟨s.data.toList, kd, code, recs, neg, now, now + q⟩, ra', rc', sa', sc', ga', gc'⟩)[j]? = some u → w9.cell? ((⟨w8.heap.size, 0, none⟩ : Addr).add j) = some u := World.news_of_block (cs := (entV ⟨⟨s.data.toList, kd, code, recs, neg, now, now + q⟩, ra', rc', sa', sc', ga', gc'⟩).toArray) (t := 161) (fr := (0, 0)) (by rw [HN.out]; rfl)
          refine step_append_lies w9 (by rfl) (.tmp 118) (.tmp 127) 151 (by rfl) B 161 i0 _ 9 128 Tryz.underlying151 hi0 hz0 hz1 hz2 (by rfl) (by decide) (.slice a2 xs2.length cp2) xs2.length (xs2.flatMap entV) (by rfl) HC9.out.row ⟨w8.heap.size, 0, none⟩ 1 1 (entV ⟨⟨s.data.toList, kd, code, recs, neg, now, now + q⟩, ra', rc', sa', sc', ga', gc'⟩) (by rfl) (by rfl) hnews hone (by decide) (by unfold maxLen; omega) (by omega) HC9.out.bs (w8.heap.size + 1) Hsz9.out ?_
          intro g cap w10 hown hgrow hat hlt
          have F10 := Fr.grown (pb := pb) HC9.out.row hgrow HC9.out.bs
          have Rb10 := Lib.hid (keptEnt F10 Rb9.out hpne (by decide))
          have Qb10 := Lib.hid (keptEnt F10 Qb9.out hqp (by decide))
          have HP10 := Lib.hid ((hgrow.block pb HC9.out.lt (Ne.symm HC9.out.vne)).trans HC9.out.blk)
          have hf10 : w10.frozen? ⟨pb, 2, none⟩ = false := frozen_of_row w10 pb 2 _ _ HP10.out
          have hR10 : RowE B w10 (.slice (some ⟨g, 0, none⟩) (xs2.length + 1) cap) (xs2 ++ [⟨⟨s.data.toList, kd, code, recs, neg, now, now + q⟩, ra', rc', sa', sc', ga', gc'⟩]) := by
            unfold RowE
            rw [List.length_append, List.flatMap_append, List.flatMap_cons, List.flatMap_nil, List.append_nil]
            exact hown
          have hes10 : (xs2 ++ [(⟨⟨s.data.toList, kd, code, recs, neg, now, now + q⟩, ra', rc', sa', sc', ga', gc'⟩ : EV)]).map (·.e) = Cb.lay c.room es1 ⟨s.data.toList, kd, code, recs, neg, now, now + q⟩ := by
            unfold Cb.lay
            rw [List.map_append, HC9.out.es]
            rfl
          have hok10 : ∀ x ∈ xs2 ++ [(⟨⟨s.data.toList, kd, code, recs, neg, now, now + q⟩, ra', rc', sa', sc', ga', gc'⟩ : EV)], x ∈ xs2 ∨ EOk B w9 x := by
            intro x hx
            rcases List.mem_append.1 hx with hx | hx
            · exact .inl hx
            · rw [List.mem_singleton] at hx
              subst hx
              exact .inr ⟨(HR8.out.recs (B' := B)).later HBn.out, (HS8.out.recs (B' := B)).later HBn.out, (HG8.out.recs (B' := B)).later HBn.out⟩
          obtain ⟨hCe, hFe⟩ := HC9.out.addRow hR10 hgrow hes10 hok10
          have hend : StoreEnd B pb c s.data.toList kind ⟨code, recs, 0, 0, neg⟩ now w (.returned (.int .i64 0)) (w10.setCell ⟨pb, 2, none⟩ (.slice (some ⟨g, 0, none⟩) (xs2.length + 1) cap)) := by
            refine ⟨by rw [Hpe.out], ⟨xs2 ++ [⟨⟨s.data.toList, kd, code, recs, neg, now, now + q⟩, ra', rc', sa', sc', ga', gc'⟩], .slice (some ⟨g, 0, none⟩) (xs2.length + 1) cap, ?_⟩, (HF.out.trans ((Fr.of_below Hb8.out HC2.out.bs).trans (Fr.of_below HBn.out HC8.out.bs))).trans hFe⟩
            rw [Hput.out, if_neg Hq0.out]
            exact hCe
          have Hend := Lib.hid hend
          clear hend hCe hFe hok10 hes10 hR10 F10 hown hgrow hone hnews hS9
          have hS10 : w10.cell? ⟨pb, 2, none⟩ = some (.slice a2 xs2.length cp2) ∧ w10.cell? ⟨w4.heap.size, 0, none⟩ = some (.string s) ∧ w10.cell? ⟨w4.heap.size, 1, none⟩ = some (.int .i64 kd) ∧
              w10.cell? ⟨w.heap.size, 0, none⟩ = some (.int .i64 code) ∧ w10.cell? ⟨w.heap.size, 1, none⟩ = some (.slice ra recs.length rc) ∧ w10.cell? ⟨w.heap.size, 2, none⟩ = some (.slice sa 0 sc) ∧ w10.cell? ⟨w.heap.size, 3, none⟩ = some (.slice ga 0 gc) ∧ w10.cell? ⟨w.heap.size, 4, none⟩ = some (.int .i64 neg) :=
            ⟨by rw [cell_of_row w10 _ 2 _ _ _ HP10.out]; rfl, by rw [cell_of_row w10 _ 0 _ _ _ Qb10.out]; rfl, by rw [cell_of_row w10 _ 1 _ _ _ Qb10.out]; rfl, by rw [cell_of_row w10 _ 0 _ _ _ Rb10.out]; rfl, by rw [cell_of_row w10 _ 1 _ _ _ Rb10.out]; rfl, by rw [cell_of_row w10 _ 2 _ _ _ Rb10.out]; rfl, by rw [cell_of_row w10 _ 3 _ _ _ Rb10.out]; rfl, by rw [cell_of_row w10 _ 4 _ _ _ Rb10.out]; rfl⟩
          refine HK.out _ _ (fun _ => hS10) ?_
          clear HK K
          try simp only [Act.put]
          try simp only [List.setIfInBounds_toArray]
          try simp only [List.set_cons_succ]
          try simp only [List.set_cons_zero]
          have kk := hS10.1
          refine wpDue_one (i := 15) (by kernel_rfl) rfl (fun K hK => ?_)
          have HK := Lib.hid hK
          clear hK
          go_simp
          refine HK.out _ _ (fun h => absurd h (by decide)) ?_
          clear HK K
          try simp only [Act.put]
          try simp only [List.setIfInBounds_toArray]
          try simp only [List.set_cons_succ]
          try simp only [List.set_cons_zero]
          refine wpDue_one (i := 16) (by kernel_rfl) rfl (fun K hK => ?_)
          have HK := Lib.hid hK
          clear hK
          go_simp
          refine HK.out _ _ (fun h => absurd h (by decide)) ?_
          clear HK K
          try simp only [Act.put]
          try simp only [List.setIfInBounds_toArray]
          try simp only [List.set_cons_succ]
          try simp only [List.set_cons_zero]
          refine wpDue_one (i := 17) (by kernel_rfl) rfl (fun K hK => ?_)
          have HK := Lib.hid hK
          clear hK
          go_simp
          refine HK.out _ _ (fun h => absurd h (by decide)) ?_
          clear HK K
          try simp only [Act.put]
          try simp only [List.setIfInBounds_toArray]
          try simp only [List.set_cons_succ]
          try simp only [List.set_cons_zero]
          refine wpDue_done (by kernel_rfl) ?_ _
          clear kk hf10 hS10
          go_wp2
          go_ret
          exact Hend.out
end
end Go.Proofs.YtajllcbjgndcpaaGreatDoor
