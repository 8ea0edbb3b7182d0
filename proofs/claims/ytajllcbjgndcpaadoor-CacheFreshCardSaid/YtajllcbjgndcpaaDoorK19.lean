/- WALKS: the law CacheFresh. -/
import Derived.Test.YtajllcbjgndcpaaDoorK18
namespace Go.Proofs.YtajllcbjgndcpaaDoor
open Go.RowKit Go.Maps

/-- The least time to live, as the law reckons it. -/
def lf (neg : Int) : List Cb.Rec → Int
  | [] => neg
  | x :: r => r.foldl (fun n y => if y.ttl < n then y.ttl else n) x.ttl
theorem foldl_min (l : List Cb.Rec) : ∀ n : Int, l.foldl (fun n y => if y.ttl < n then y.ttl else n) n = Cb.least n l := by
  induction l with
  | nil => intro n; rfl
  | cons x r ih =>
    intro n
    have e : (if x.ttl < n then x.ttl else n) = min n x.ttl := by split <;> omega
    show r.foldl _ (if x.ttl < n then x.ttl else n) = _
    rw [e, ih]; rfl
theorem lf_life {c : Cb.Cac} {name : Lb.Bs} {kind now : Int} {r : Cb.Rp} (h : Cb.putErr c name kind r now = 0) : lf r.neg r.recs = Cb.life r := by
  obtain ⟨_, h2, h3, _, _, h6⟩ := Cb.life_range h
  obtain ⟨f1, _, _, _⟩ := Cb.form_recs h3
  unfold Cb.life
  cases hr : r.recs with
  | nil =>
    rw [hr] at f1
    rw [if_pos (by simp at f1; omega)]; rfl
  | cons x t =>
    rw [hr] at f1 h6
    have hx := h6 x (by simp)
    rw [if_neg (by simp at f1; omega)]
    show t.foldl _ x.ttl = t.foldl _ (min 1000000 x.ttl)
    rw [foldl_min, show min 1000000 x.ttl = x.ttl by omega]; rfl
theorem lf_step {neg : Int} {l : List Cb.Rec} {k : Nat} {x : Cb.Rec} (hx : l[k]? = some x) (hk : 0 < k) : lf neg (l.take (k + 1)) = if x.ttl < lf neg (l.take k) then x.ttl else lf neg (l.take k) := by
  rw [List.take_add_one, hx]
  have hl : k < l.length := (List.getElem?_eq_some_iff.1 hx).1
  cases ht : l.take k with
  | nil => exfalso; have h9 := congrArg List.length ht; rw [List.length_take, List.length_nil] at h9; omega
  | cons y r =>
    show (r ++ [x]).foldl _ y.ttl = _
    rw [List.foldl_append]; rfl
theorem lf_first {neg : Int} {l : List Cb.Rec} {x : Cb.Rec} (hx : l[0]? = some x) : lf neg (l.take (0 + 1)) = x.ttl := by
  rw [List.take_add_one, hx]; rfl

set_option maxHeartbeats 6400000 in
set_option maxRecDepth 100000 in
theorem cacheFresh_any (room wait : Int) (v : Value) (l : List St) (x : St) (w : World) (henv : Env w) (h : Steps w.heap.size w v l) (hx : ROk w.heap.size w x.r) (hr : -9223372036854775808 ≤ room ∧ room ≤ 9223372036854775807) :
    Calls Tryd.prog 4 #[.int .i64 room, v, .agg (stepV x).toArray, .int .i64 wait] w fun e w' => e = .returned (.bool true) ∧ Below w.heap.size w w' := by
  obtain ⟨pt, nm, kd, ⟨⟨code, recs, ns, ng, neg⟩, ra, rc, sa, sc, ga, gc⟩, wt⟩ := x
  unfold stepV
  dsimp only at hx ⊢
  have hBa : Below w.heap.size w (w.alloc (.cells #[.bool pt, .string ⟨nm.toArray⟩, .int .i64 kd, .int .i64 code, .slice ra recs.length rc, .slice sa ns sc, .slice ga ng gc, .int .i64 neg, .int .i64 wt] 33)) := (Below.refl _ w).alloc (Nat.le_refl _) _
  have hsb := heap_alloc_new w (.cells #[.bool pt, .string ⟨nm.toArray⟩, .int .i64 kd, .int .i64 code, .slice ra recs.length rc, .slice sa ns sc, .slice ga ng gc, .int .i64 neg, .int .i64 wt] 33)
  have HO := Lib.hid (cacheOf_any room v l _ (henv.later hBa) (h.up hBa) hr)
  have HBa := Lib.hid hBa
  have hl1 : w.heap.size < (w.alloc (.cells #[.bool pt, .string ⟨nm.toArray⟩, .int .i64 kd, .int .i64 code, .slice ra recs.length rc, .slice sa ns sc, .slice ga ng gc, .int .i64 neg, .int .i64 wt] 33)).heap.size := by simp
  have Hsb := Lib.hid hsb
  have HX1 := Lib.hid (hx.up hBa (Nat.le_of_lt hl1))
  obtain ⟨d, hd⟩ : ∃ d, max 0 (min wait 200) = d := ⟨_, rfl⟩
  have hd0 : 0 ≤ d ∧ d ≤ 200 := by omega
  clear hBa h hr hsb hx
  go_enter Tryd.func4, Tryd.ntmps4
  go_wp2_with fail
  generalize w.alloc (.cells #[.bool pt, .string ⟨nm.toArray⟩, .int .i64 kd, .int .i64 code, .slice ra recs.length rc, .slice sa ns sc, .slice ga ng gc, .int .i64 neg, .int .i64 wt] 33) = w1 at *
  have hw1 : w.heap.size ≤ w1.heap.size := Nat.le_of_lt hl1
  refine HO.out.mono ?_
  rintro e w2 ⟨pb, c, xs, v, now, rfl, hC, hI, hroom, hnow, hn0, hn1, hB⟩
  have HB2 := Lib.hid (HBa.out.trans (hB.mono hw1))
  have HF := Lib.hid (cacheFact_any w2 (henv.later HB2.out))
  have HC2 := Lib.hid hC
  have HI := Lib.hid hI
  have Sb2 := Lib.hid ((hB.block _ hl1).trans Hsb.out)
  have hsp : w.heap.size ≠ pb := by have := hC.hpb; omega
  have hrl : ∀ W : World, Below w1.heap.size w1 W → Recs w1.heap.size W (.slice ra recs.length rc) recs := by
    intro W hW
    exact HX1.out.r.later hW
  have HX2 := Lib.hid (show ROk w1.heap.size w2 ⟨⟨code, recs, ns, ng, neg⟩, ra, rc, sa, sc, ga, gc⟩ from ⟨hrl _ hB, HX1.out.s, HX1.out.g⟩)
  clear hC hI hroom hB HO hrl
  go_wp2_with fail
  refine HF.out.mono ?_
  rintro e w3 ⟨rfl, hB⟩
  have HB3 := Lib.hid (HB2.out.trans (hB.mono HB2.out.size))
  have HC3 := Lib.hid (HC2.out.later hB)
  have hsb3 := (hB.block _ (Nat.lt_of_lt_of_le hl1 (by have := HC2.out.bs; exact this))).trans Sb2.out
  have hX3 := HX2.out.later hB
  have HX3 := Lib.hid hX3
  have hP : Calls Tryd.prog 14 #[.pointer (some ⟨pb, 0, none⟩), .string ⟨nm.toArray⟩, .int .i64 kd, .agg #[.int .i64 code, .slice ra recs.length rc, .slice sa ns sc, .slice ga ng gc, .int .i64 neg], .int .i64 now] w3
      (StoreEnd w1.heap.size pb c nm kd ⟨code, recs, ns, ng, neg⟩ now w3) := cachePut_any w3 (henv.later HB3.out) HI.out HC3.out ⟨nm.toArray⟩ kd now _ hX3
  have Sb3 := Lib.hid hsb3
  have hcs := fun j => cell_of_row w3 w.heap.size j _ _ _ hsb3
  have HP := Lib.hid hP
  clear hB HF hsb3 hX3 hP
  go_wp2_with fail
  refine HP.out.mono ?_
  rintro e w4 ⟨rfl, ⟨xs4, v4, hC4⟩, hF4⟩
  have HB4 := Lib.hid (HB3.out.trans (hF4.below.mono hw1))
  have sb4 := keptEnt hF4 Sb3.out hsp (by decide)
  have Sb4 := Lib.hid sb4
  have HR4 := Lib.hid (HX3.out.r.fr hF4 HC3.out.noRec)
  have HC4 := Lib.hid hC4
  have hcs := fun j => cell_of_row w4 w.heap.size j _ _ _ sb4
  clear hC4 hF4 HP sb4
  by_cases hpe : Cb.putErr c nm kd ⟨code, recs, ns, ng, neg⟩ now = 0
  · rw [hpe]
    have Hpe := Lib.hid hpe
    clear hpe
    have hfew : recs.length ≤ 60 := (Cb.form_recs (Cb.life_range Hpe.out).2.2.1).2.1
    have Hlf := Lib.hid (lf_life Hpe.out)
    have hlaw := Cb.fresh_law HI.out Hpe.out hd0.1 (by omega)
    have Hlaw := Lib.hid hlaw
    clear hlaw
    go_wp2
    go_loopw [11, 48] (fun lv i wr => ∃ k : Nat, k ≤ recs.length ∧ i = .int .i64 k ∧ lv = .int .i64 (lf neg (recs.take k)) ∧ Hid (Below w4.heap.size w4 wr)) (fun _ i _ => recs.length - (intOf i).toNat)
    case atStart => exact ⟨0, Nat.zero_le _, rfl, rfl, Below.refl _ _⟩
    case round =>
      obtain ⟨k, hk, rfl, rfl, HB⟩ := hrel
      have hz4 := HB.out.size
      by_cases hlt : k < recs.length
      · obtain ⟨y, hy⟩ : ∃ y, recs[k]? = some y := ⟨recs[k], List.getElem?_eq_getElem hlt⟩
        obtain ⟨b, o, rfl, hb, c0, c1, c2, c3⟩ := recs_at (HR4.out.later HB.out) hy
        have hi0 : (0 : Int) ≤ (k : Int) := by omega
        have hi1 : (k : Int) < (recs.length : Int) := by omega
        have Hy := Lib.hid hy
        have HBn := Lib.hid (HB.out.alloc hz4 (.cells #[.string ⟨y.name.toArray⟩, .int .i64 y.kind, .int .i64 y.ttl, .string ⟨y.data.toArray⟩] 39))
        clear hy
        by_cases hk0 : k = 0
        · have hkb : ((k : Int) == 0) = true := by rw [beq_iff_eq]; omega
          have Hnew := Lib.hid (show lf neg (recs.take (k + 1)) = y.ttl by
            have h := Hy.out
            rw [hk0] at h ⊢
            exact lf_first h)
          clear hk0
          generalize lf neg (recs.take k) = L at *
          go_wp2
          refine ⟨⟨k + 1, by omega, by go_num, by rw [Hnew.out], HBn.out⟩, by simp [intOf]; omega⟩
        · have hkb : ((k : Int) == 0) = false := by rw [beq_eq_false_iff_ne]; omega
          have hs := lf_step (neg := neg) Hy.out (by omega)
          clear hk0
          generalize lf neg (recs.take k) = L at *
          by_cases hyl : y.ttl < L
          · rw [if_pos hyl] at hs
            have Hs := Lib.hid hs
            clear hs
            go_wp2
            refine ⟨⟨k + 1, by omega, by go_num, by rw [Hs.out], HBn.out⟩, by simp [intOf]; omega⟩
          · rw [if_neg hyl] at hs
            have Hs := Lib.hid hs
            clear hs
            go_wp2
            refine ⟨⟨k + 1, by omega, by go_num, by rw [Hs.out], HBn.out⟩, by simp [intOf]; omega⟩
      · obtain rfl : k = recs.length := by omega
        have hlf : lf neg (recs.take recs.length) = Cb.life ⟨code, recs, ns, ng, neg⟩ := by rw [List.take_length]; exact Hlf.out
        rw [hlf]
        obtain ⟨L, hL⟩ : ∃ L, Cb.life ⟨code, recs, ns, ng, neg⟩ = L := ⟨_, rfl⟩
        rw [hL]
        have HL := Lib.hid hL
        have HB5 := Lib.hid (HB4.out.trans (HB.out.mono HB4.out.size))
        have HC5 := Lib.hid (HC4.out.later HB.out)
        have HR5 := Lib.hid (HR4.out.later HB.out)
        have sb5 := (HB.out.block _ (Array.getElem?_eq_some_iff.1 Sb4.out).1).trans Sb4.out
        have Sb5 := Lib.hid sb5
        have hcs := fun j => cell_of_row wr w.heap.size j _ _ _ sb5
        have hG : Calls Tryd.prog 15 #[.pointer (some ⟨pb, 0, none⟩), .string ⟨nm.toArray⟩, .int .i64 kd, .int .i64 (now + d)] wr (GetEnd w1.heap.size pb (Cb.put c nm kd ⟨code, recs, ns, ng, neg⟩ now) nm kd (now + d) wr) :=
          get_any wr (henv.later HB5.out) (Cb.inv_put HI.out _ _ _ _) HC5.out ⟨nm.toArray⟩ kd (now + d)
        unfold GetEnd at hG
        rw [Hlaw.out.1] at hG
        have HG := Lib.hid hG
        clear hlf hL sb5 hG
        go_wp2_with fail
        refine HG.out.mono ?_
        rintro e w6 ⟨⟨p6, ra6, rc6, sa6, sc6, ga6, gc6⟩, rfl, hp6, hr6, -, -, -, hF6⟩
        have HB6 := Lib.hid (HB5.out.trans (hF6.below.mono hw1))
        have sb6 := keptEnt hF6 Sb5.out hsp (by decide)
        have HR6 := Lib.hid (HR5.out.fr hF6 HC5.out.noRec)
        have Sb6 := Lib.hid sb6
        have hcs := fun j => cell_of_row w6 w.heap.size j _ _ _ sb6
        have hlt6 : w.heap.size < w6.heap.size := (Array.getElem?_eq_some_iff.1 sb6).1
        have hne6 : w.heap.size ≠ w6.heap.size := Nat.ne_of_lt hlt6
        dsimp only at hp6 hr6
        have Hr6 := Lib.hid hr6
        have Hlaw2 := Lib.hid Hlaw.out.2
        unfold rpV
        dsimp only
        clear hF6 sb6 HG hr6
        generalize Cb.put c nm kd ⟨code, recs, ns, ng, neg⟩ now = c1 at *
        obtain ⟨pc, prs, pns, png, pneg⟩ := p6
        dsimp only at Hr6 ⊢
        have hBx : Below w6.heap.size w6 (w6.alloc (.cells #[.int .i64 pc, .slice ra6 prs.length rc6, .slice sa6 pns sc6, .slice ga6 png gc6, .int .i64 pneg] 31)) := (Below.refl _ _).alloc (Nat.le_refl _) _
        have HBx := Lib.hid (HB6.out.trans (hBx.mono HB6.out.size))
        by_cases hdl : L ≤ d
        · have hl2 := Hlaw2.out.1 (by rw [HL.out]; exact hdl)
          cases hg : Cb.got c1 nm kd (now + d) with
          | none =>
            clear hl2 hp6 hg hBx
            dsimp only [Option.isSome_none]
            go_wp2
            go_ret
            exact ⟨rfl, HBx.out⟩
          | some x =>
            rw [hg, Option.getD_some] at hp6
            have hc5 := hl2 x hg
            rw [← hp6] at hc5
            dsimp only at hc5
            clear hl2 hp6 hg hBx
            dsimp only [Option.isSome_some]
            by_cases h5 : pc = 5
            · have h5b : (pc == 5) = true := by rw [beq_iff_eq]; exact h5
              clear h5 hc5
              go_wp2
              go_ret
              exact ⟨rfl, HBx.out⟩
            · have h5b : (pc == 5) = false := beq_eq_false_iff_ne.2 h5
              have h6b : (code == 5) = true := by rw [beq_iff_eq]; exact hc5.resolve_left h5
              clear h5 hc5
              go_wp2
              go_ret
              exact ⟨rfl, HBx.out⟩
        · obtain ⟨x, hg, hx5⟩ := Hlaw2.out.2 (by rw [HL.out]; omega)
          rw [hg, Option.getD_some] at hp6
          rw [← hp6] at hx5
          dsimp only at hx5
          rw [hg]
          dsimp only [Option.isSome_some]
          have hdl' : d < L := by omega
          clear hp6 hg hdl
          by_cases h5 : pc = 5
          · have h5b : (pc == 5) = true := by rw [beq_iff_eq]; exact h5
            clear h5 hx5 hBx
            go_wp2
            go_ret
            exact ⟨rfl, HBx.out⟩
          · have h5b : (pc == 5) = false := beq_eq_false_iff_ne.2 h5
            obtain ⟨rfl, hrs⟩ := hx5.resolve_left h5
            have hlen : prs.length = recs.length := by rw [hrs, List.length_map]
            have Hrs := Lib.hid hrs
            rw [hlen] at hBx HBx Hr6
            rw [hlen]
            have Hlen := Lib.hid hlen
            clear hx5 h5 hrs hlen
            go_wp2
            have hbx := heap_alloc_new w6 (.cells #[.int .i64 pc, .slice ra6 recs.length rc6, .slice sa6 pns sc6, .slice ga6 png gc6, .int .i64 pneg] 31)
            have Sb7 := Lib.hid ((hBx.block _ hlt6).trans Sb6.out)
            have HR7 := Lib.hid (HR6.out.later hBx)
            have Hr7 := Lib.hid (Hr6.out.later hBx)
            have Hbx := Lib.hid hbx
            have hl7 : w6.heap.size < (w6.alloc (.cells #[.int .i64 pc, .slice ra6 recs.length rc6, .slice sa6 pns sc6, .slice ga6 png gc6, .int .i64 pneg] 31)).heap.size := by simp
            clear hbx hBx
            generalize (w6.alloc (.cells #[.int .i64 pc, .slice ra6 recs.length rc6, .slice sa6 pns sc6, .slice ga6 png gc6, .int .i64 pneg] 31)) = w7 at *
            go_loopw [17, 122] (fun okv i wr => ∃ k : Nat, k ≤ recs.length ∧ i = .int .i64 k ∧ okv = .bool true ∧ Hid (Below w7.heap.size w7 wr)) (fun _ i _ => recs.length - (intOf i).toNat)
            case atStart => exact ⟨0, Nat.zero_le _, rfl, rfl, Below.refl _ _⟩
            case round =>
              obtain ⟨k, hk, rfl, rfl, HBk⟩ := hrel
              by_cases hlt : k < recs.length
              · obtain ⟨y, hy⟩ : ∃ y, recs[k]? = some y := ⟨recs[k], List.getElem?_eq_getElem hlt⟩
                have hpy : prs[k]? = some (Cb.older d y) := by rw [Hrs.out, List.getElem?_map, hy]; rfl
                obtain ⟨b, o, rfl, hb, c0, c1', c2, c3⟩ := recs_at (HR7.out.later HBk.out) hy
                obtain ⟨b2, o2, rfl, hb2, e0, e1, e2, e3⟩ := recs_at (Hr7.out.later HBk.out) hpy
                dsimp only [Cb.older] at e2 e3
                have hi0 : (0 : Int) ≤ (k : Int) := by omega
                have hi1 : (k : Int) < (recs.length : Int) := by omega
                have hyt := (Cb.life_range Hpe.out).2.2.2.2.2 y (List.mem_of_getElem? hy)
                have hsum : IntKind.i64.wrap (y.ttl - d) = y.ttl - d := IntWalk.i64_in _ (by omega)
                have sbk := (HBk.out.block _ (Array.getElem?_eq_some_iff.1 Sb7.out).1).trans Sb7.out
                have bxk := (HBk.out.block _ hl7).trans Hbx.out
                have hcs := fun j => cell_of_row wr w.heap.size j _ _ _ sbk
                have hcb := fun j => cell_of_row wr w6.heap.size j _ _ _ bxk
                clear hy hpy sbk bxk c0 c1' e0 e1 hyt
                go_upto_region 27 with fail
                go_quiet (fail)
                have HBn := Lib.hid (below_dN HBk.out nq)
                go_wp2
                refine ⟨⟨k + 1, by omega, by go_num, ?_, HBn.out⟩, by simp [intOf]; omega⟩
                first | rfl | (simp; done)
              · have HBe := Lib.hid (HBx.out.trans (HBk.out.mono HBx.out.size))
                go_wp2
                go_ret
                exact ⟨rfl, HBe.out⟩
  · have hpb : (Cb.putErr c nm kd ⟨code, recs, ns, ng, neg⟩ now == 0) = false := beq_eq_false_iff_ne.2 hpe
    have hpb2 : (Cb.putErr c nm kd ⟨code, recs, ns, ng, neg⟩ now != 0) = true := by rw [bne, hpb]; rfl
    clear hpe
    generalize Cb.putErr c nm kd ⟨code, recs, ns, ng, neg⟩ now = pe at *
    go_wp2
    go_ret
    exact ⟨rfl, HB4.out⟩
end Go.Proofs.YtajllcbjgndcpaaDoor
