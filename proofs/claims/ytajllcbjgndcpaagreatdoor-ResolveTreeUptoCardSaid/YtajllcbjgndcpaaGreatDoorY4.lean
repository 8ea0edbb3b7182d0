/- WALKS: reply.refer. -/
import Derived.Test.YtajllcbjgndcpaaGreatDoorY3
namespace Go.Proofs.YtajllcbjgndcpaaGreatDoor
open Go.RowKit Go.Maps

theorem Blk.uniq {w : World} {b : Nat} {cs cs' : Array Value} {T T' : TypeId} (h : Blk w b cs T) {fr : Nat × Nat} (h' : w.heap[b]? = some (.cells cs' T' fr)) : cs = cs' ∧ T = T' := by
  unfold Blk at h
  rw [h] at h'
  injection h' with h'
  injection h' with h1 h2 h3
  exact ⟨h1, h2⟩
theorem Blk.set {w : World} {b j : Nat} {cs : Array Value} {T : TypeId} (h : Blk w b cs T) (u : Value) : Blk (w.setCell ⟨b, j, none⟩ u) b (cs.setIfInBounds j u) T := heap_setCell_same w b j _ _ u h
theorem Blk.setOther {w : World} {b : Nat} {cs : Array Value} {T : TypeId} (h : Blk w b cs T) {p : Addr} (hp : b ≠ p.block) (u : Value) : Blk (w.setCell p u) b cs T := (Below.heap_setCell w p u b hp).trans h
theorem RowR.far {B : Nat} {w : World} {v : Value} {l : List Cb.Rec} (h : RowR B w v l) {q : Nat} {cs : Array Value} {T : TypeId} (hq : Blk w q cs T) (hT : T ≠ 43) : v.ownBlock ≠ some q := by
  rcases h.2 with ⟨rfl, _⟩ | ⟨g, cap, cur, rfl, _, hg, _⟩
  · intro e; cases e
  · intro e
    injection e with e
    dsimp only at e
    subst e
    exact hT (hq.uniq hg).2
theorem RowR.setFarQ {B : Nat} {w : World} {v : Value} {l : List Cb.Rec} (h : RowR B w v l) {q : Nat} {cs : Array Value} {T : TypeId} (hq : Blk w q cs T) (hT : T ≠ 43) (j : Nat) (u : Value) : RowR B (w.setCell ⟨q, j, none⟩ u) v l := by
  have hf := h.far hq hT
  refine ⟨h.1, ?_⟩
  rcases h.2 with h2 | ⟨g, cap, cur, h2, h3, h4, h5⟩
  · exact .inl h2
  · refine .inr ⟨g, cap, cur, h2, h3, (Below.heap_setCell _ _ _ _ ?_).trans h4, h5⟩
    rintro rfl
    rw [h2] at hf
    exact hf rfl
theorem Blk.grown {w w' : World} {b : Nat} {cs : Array Value} {T : TypeId} (h : Blk w b cs T) {row : Option Nat} (hg : w.grownBy w' row) (hne : row ≠ some b) : Blk w' b cs T := (hg.block b h.lt (fun e => hne e.symm)).trans h
/-- A record's own block is not taken for the row. -/
theorem append_far {w w' : World} {v v' : Value} {n B br : Nat} {ys : List Value} {cs : Array Value} (hown' : w'.ownsRow B 43 4 v' (n + 1) ys) (hg : w.grownBy w' v.ownBlock) (hb : Blk w br cs 43) (hcs : cs.size = 4) (hne : v.ownBlock ≠ some br) (hn : 1 ≤ n) : v'.ownBlock ≠ some br := by
  intro e
  rcases hown'.2 with ⟨rfl, _⟩ | ⟨g, cap, cur, rfl, _, h4, h5, _, h6, _⟩
  · cases e
  · injection e with e
    dsimp only at e
    subst e
    have := ((hb.grown hg hne).uniq h4).1
    rw [← this, hcs] at h6
    omega
/-- What the two loops carry: the reply's block, its glue. -/
structure GlInv (q : Nat) (sv : Value) (w3 wr : World) (gv : Value) (G : List Cb.Rec) : Prop where
  blk : Blk wr q #[.int .i64 3, .slice none 0 0, sv, gv, .int .i64 0] 39
  row : RowR w3.heap.size wr gv G
  nil : G = [] → gv = .slice none 0 0
  bel : Below w3.heap.size w3 wr
theorem GlInv.later {q : Nat} {sv : Value} {w3 wr w' : World} {gv : Value} {G : List Cb.Rec} (h : GlInv q sv w3 wr gv G) (hB : Below wr.heap.size wr w') : GlInv q sv w3 w' gv G := ⟨h.blk.later hB, h.row.later hB, h.nil, h.bel.trans (hB.mono h.bel.size)⟩
theorem gl_append {q br : Nat} {sv gv gv' : Value} {w3 w7 w8 : World} {Gc : List Cb.Rec} {r : Cb.Rec} (hG : GlInv q sv w3 w7 gv Gc) (hbr : Blk w7 br (recV r).toArray 43) (hfar : gv.ownBlock ≠ some br)
    (hown' : w8.ownsRow w3.heap.size 43 4 gv' (Gc.length + 1) (Gc.flatMap recV ++ recV r)) (hgrow : w7.grownBy w8 gv.ownBlock) (hq : w3.heap.size ≤ q) :
    GlInv q sv w3 (w8.setCell ⟨q, 3, none⟩ gv') gv' (Gc ++ [r]) ∧ Blk (w8.setCell ⟨q, 3, none⟩ gv') br (recV r).toArray 43 := by
  have hqf := hG.row.far hG.blk (by decide)
  have hq8 := hG.blk.grown hgrow hqf
  have hb8 := hbr.grown hgrow hfar
  have hne : br ≠ q := by
    rintro rfl
    exact absurd (hbr.uniq hG.blk).2 (by decide)
  have hB8 := hG.bel.grown hgrow hG.bel.size (fun k hk => RowR.ownB hG.row k hk)
  exact ⟨⟨hq8.set _, (RowR.snoc hown').setFarQ hq8 (by decide) 3 gv', fun e => (by simp at e), hB8.setCell hq _⟩, hb8.setOther hne _⟩
def GlOut (l : List Cb.Rec) (cut : Lb.Bs) (S : List Cb.Rec) (q : Nat) (sv : Value) (w3 : World) (k : Nat) (wr : World) : Prop := ∃ gv, GlInv q sv w3 wr gv (Rn.glueOf (l.take k) cut S)
def glueRow (cut : Lb.Bs) (r : Cb.Rec) (S : List Cb.Rec) : List Cb.Rec := (S.filter (Rn.glueHit cut r)).map fun _ => r
def GlIn (G0 : List Cb.Rec) (cut : Lb.Bs) (r : Cb.Rec) (S : List Cb.Rec) (q br : Nat) (sv : Value) (w3 : World) (j : Nat) (wr : World) : Prop :=
  ∃ gv, GlInv q sv w3 wr gv (G0 ++ glueRow cut r (S.take j)) ∧ Blk wr br (recV r).toArray 43 ∧ gv.ownBlock ≠ some br
theorem glueOf_next {l S : List Cb.Rec} {cut : Lb.Bs} {k : Nat} {x : Cb.Rec} (h : l[k]? = some x) : Rn.glueOf (l.take (k + 1)) cut S = Rn.glueOf (l.take k) cut S ++ glueRow cut x S := by
  unfold Rn.glueOf glueRow
  rw [List.take_add_one, h, List.flatMap_append]
  simp
theorem glueRow_next {S : List Cb.Rec} {cut : Lb.Bs} {r : Cb.Rec} {k : Nat} {x : Cb.Rec} (h : S[k]? = some x) : glueRow cut r (S.take (k + 1)) = glueRow cut r (S.take k) ++ if Rn.glueHit cut r x = true then [r] else [] := by
  unfold glueRow
  rw [List.take_add_one, h, List.filter_append, List.map_append]
  congr 1
  by_cases hh : Rn.glueHit cut r x = true
  · rw [if_pos hh]; simp [hh]
  · rw [if_neg hh]; simp [hh]
theorem glue_len (l S : List Cb.Rec) (cut : Lb.Bs) : (Rn.glueOf l cut S).length ≤ l.length * S.length := by
  unfold Rn.glueOf
  induction l with
  | nil => simp
  | cons x r ih =>
    rw [List.flatMap_cons, List.length_append, List.length_map, List.length_cons, Nat.add_mul]
    have := List.length_filter_le (Rn.glueHit cut x) S
    omega
theorem glueRow_len (S : List Cb.Rec) (cut : Lb.Bs) (r : Cb.Rec) (k : Nat) : (glueRow cut r (S.take k)).length ≤ k := by
  unfold glueRow
  rw [List.length_map]
  exact filter_le _ _ _

set_option maxHeartbeats 6400000 in
set_option maxRecDepth 100000 in
theorem refer_any (B : Nat) (o : Lb.Bs) (za : Option Addr) (zc : Nat) (l : List Cb.Rec) (cut : Lb.Bs) (w : World) (henv : Env w) (hr : Recs B w (.slice za l.length zc) l) (hl : l.length ≤ 60) :
    Calls Tryz.prog 54 #[zoneV o za l.length zc, .string ⟨cut.toArray⟩] w (RepEnd (Rn.refer ⟨o, l⟩ cut) w) := by
  have HR1 := Lib.hid (fun W (hW : Below w.heap.size w W) => records_any B o za zc l cut cut 3 W (hr.later hW) (by omega))
  unfold zoneV at *
  unfold RcEnd at HR1
  have HB := Lib.hid (((Below.refl _ w).alloc (Nat.le_refl _) (.cells #[.string ⟨o.toArray⟩, .slice za l.length zc] 24)).alloc (by simp) (.cells #[.int .i64 0, .slice none 0 0, .slice none 0 0, .slice none 0 0, .int .i64 0] 39))
  have Hb1 := Lib.hid ((blk_new w #[.string ⟨o.toArray⟩, .slice za l.length zc] 24).alloc (.cells #[.int .i64 0, .slice none 0 0, .slice none 0 0, .slice none 0 0, .int .i64 0] 39))
  have Hb2 := Lib.hid (blk_second w (.cells #[.string ⟨o.toArray⟩, .slice za l.length zc] 24) #[.int .i64 0, .slice none 0 0, .slice none 0 0, .slice none 0 0, .int .i64 0] 39)
  have HR := Lib.hid hr
  unfold Rn.refer
  dsimp only
  have hSlen : (Rn.recsOf l cut 3 cut).length ≤ 60 := by
    have := recsOf_len l cut cut 3 l.length
    rw [List.take_length] at this
    omega
  generalize Rn.recsOf l cut 3 cut = S at *
  have hl' : (l.length : Int) ≤ 60 := by omega
  have hS' : (S.length : Int) ≤ 60 := by omega
  clear hr
  go_enter Tryz.func54, Tryz.ntmps54
  go_wp2_with fail
  generalize (w.alloc (.cells #[.string ⟨o.toArray⟩, .slice za l.length zc] 24)).alloc (.cells #[.int .i64 0, .slice none 0 0, .slice none 0 0, .slice none 0 0, .int .i64 0] 39) = w2 at *
  refine (HR1.out _ HB.out).mono ?_
  rintro e w3 ⟨v, rfl, hrow, hB3⟩
  obtain ⟨sa, sc, rfl⟩ := hrow.val
  have HB3 := Lib.hid (HB.out.trans (hB3.mono HB.out.size))
  have Hz3 := Lib.hid (Hb1.out.later hB3)
  have Hq3 := Lib.hid (Hb2.out.later hB3)
  have HS := Lib.hid hrow
  have Hsz := Lib.hid HB.out.size
  have Hlt2 := Lib.hid Hb2.out.lt
  have hz := Hz3.out.later ((Below.refl _ w3).alloc (Nat.le_refl _) (.cells #[.int .i64 3, .slice none 0 0, .slice sa S.length sc, .slice none 0 0, .int .i64 0] 39))
  have hc := fun j => hz.cell j
  have HI0 := Lib.hid (⟨.slice none 0 0, blk_new w3 #[.int .i64 3, .slice none 0 0, .slice sa S.length sc, .slice none 0 0, .int .i64 0] 39, rowR_nil _ _, fun _ => rfl, (Below.refl _ w3).alloc (Nat.le_refl _) _⟩ : GlOut l cut S w3.heap.size (.slice sa S.length sc) w3 0 (w3.alloc (.cells #[.int .i64 3, .slice none 0 0, .slice sa S.length sc, .slice none 0 0, .int .i64 0] 39)))
  clear hz hrow hB3 HR1
  go_wp2
  clear hc
  go_loopw [20] (fun kv wr => ∃ (k : Nat), k ≤ l.length ∧ kv = .int .i64 k ∧ Hid (GlOut l cut S w3.heap.size (.slice sa S.length sc) w3 k wr)) (fun kv _ => l.length - (intOf kv).toNat)
  case atStart => exact ⟨0, Nat.zero_le _, rfl, HI0.out⟩
  case round =>
    obtain ⟨k, hk, rfl, HI⟩ := hrel
    obtain ⟨gv0, hI⟩ := HI.out
    have HII := Lib.hid hI
    have HBt := Lib.hid (HB3.out.trans (hI.bel.mono HB3.out.size))
    have hcq := fun j => hI.blk.cell j
    have hqlt := hI.blk.lt
    generalize wr = w5 at *
    by_cases hlt : k < l.length
    · obtain ⟨x, hx⟩ : ∃ x, l[k]? = some x := ⟨l[k], List.getElem?_eq_getElem hlt⟩
      obtain ⟨b, p, rfl, hb, c0, c1, c2, c3⟩ := recs_at (HR.out.later HBt.out) hx
      have hi0 : (0 : Int) ≤ (k : Int) := by omega
      have hi1 : (k : Int) < (l.length : Int) := by omega
      have Hnext := Lib.hid (glueOf_next (S := S) (cut := cut) hx)
      have hG0len : (Rn.glueOf (l.take k) cut S).length ≤ 3600 := by
        have h1 := glue_len (l.take k) S cut
        have h2 : (l.take k).length ≤ 60 := by rw [List.length_take]; omega
        exact Nat.le_trans h1 (Nat.mul_le_mul h2 hSlen)
      have hst : GlIn (Rn.glueOf (l.take k) cut S) cut x S w3.heap.size w5.heap.size (.slice sa S.length sc) w3 0 (w5.alloc (.cells #[.string ⟨x.name.toArray⟩, .int .i64 x.kind, .int .i64 x.ttl, .string ⟨x.data.toArray⟩] 43)) := by
        have hB := (Below.refl _ w5).alloc (Nat.le_refl _) (.cells #[.string ⟨x.name.toArray⟩, .int .i64 x.kind, .int .i64 x.ttl, .string ⟨x.data.toArray⟩] 43)
        have e0 : Rn.glueOf (l.take k) cut S ++ glueRow cut x (S.take 0) = Rn.glueOf (l.take k) cut S := by simp [glueRow]
        refine ⟨gv0, ⟨hI.blk.later hB, ?_, ?_, hI.bel.trans (hB.mono hI.bel.size)⟩, blk_new w5 _ _, fun e => ?_⟩
        · rw [e0]; exact hI.row.later hB
        · rw [e0]; exact hI.nil
        · have := (World.ownsRow.lt hI.row _ e).2
          omega
      have HST := Lib.hid hst
      generalize hG0 : Rn.glueOf (l.take k) cut S = G0 at *
      clear hx hI hst hG0 HII
      obtain ⟨xn, xk, xt, xd⟩ := x
      dsimp only at *
      go_wp2
      clear hcq c0 c1 c2 c3
      go_loopw [27] (fun jv wr => ∃ (j : Nat), j ≤ S.length ∧ jv = .int .i64 j ∧ Hid (GlIn G0 cut ⟨xn, xk, xt, xd⟩ S w3.heap.size w5.heap.size (.slice sa S.length sc) w3 j wr)) (fun jv _ => S.length - (intOf jv).toNat)
      case atStart => exact ⟨0, Nat.zero_le _, rfl, HST.out⟩
      case round =>
        obtain ⟨j, hj, rfl, HJ⟩ := hrel
        obtain ⟨gv, hG, hbr, hfar⟩ := HJ.out
        obtain ⟨Gc, hGc⟩ : ∃ Gc, G0 ++ glueRow cut ⟨xn, xk, xt, xd⟩ (S.take j) = Gc := ⟨_, rfl⟩
        rw [hGc] at hG
        have HGc := Lib.hid hGc
        have HG := Lib.hid hG
        have Hbr := Lib.hid hbr
        have Hfar := Lib.hid hfar
        have HBw := Lib.hid (HB3.out.trans (hG.bel.mono HB3.out.size))
        by_cases hjs : j < S.length
        · obtain ⟨y, hy⟩ : ∃ y, S[j]? = some y := ⟨S[j], List.getElem?_eq_getElem hjs⟩
          obtain ⟨b2, p2, rfl, hb2, d0, d1, d2, d3⟩ := recs_at (RowR.recs (B' := B) (HS.out.later hG.bel)) hy
          have hj0 : (0 : Int) ≤ (j : Int) := by omega
          have hj1 : (j : Int) < (S.length : Int) := by omega
          have Hjn := Lib.hid (glueRow_next (cut := cut) (r := ⟨xn, xk, xt, xd⟩) hy)
          have hGlen : (glueRow cut ⟨xn, xk, xt, xd⟩ (S.take j)).length ≤ 60 := Nat.le_trans (glueRow_len S cut _ j) (by omega)
          have hGcl : Gc.length ≤ 3660 := by rw [← hGc, List.length_append]; omega
          clear hy hfar hGc hGlen
          obtain ⟨yn, yk, yt, yd⟩ := y
          dsimp only at *
          have hbl := hbr.lt
          have hql := hG.blk.lt
          have hcb := fun i => hbr.cell i
          have hBy := (Below.refl _ wr).alloc (Nat.le_refl _) (.cells #[.string ⟨yn.toArray⟩, .int .i64 yk, .int .i64 yt, .string ⟨yd.toArray⟩] 43)
          have HU := Lib.hid (show Calls Tryz.prog 30 #[.string ⟨xn.toArray⟩, .string ⟨cut.toArray⟩] (wr.alloc (.cells #[.string ⟨yn.toArray⟩, .int .i64 yk, .int .i64 yt, .string ⟨yd.toArray⟩] 43)) (UndEnd xn cut _) from under_all ⟨xn.toArray⟩ ⟨cut.toArray⟩ _ (henv.later (HBw.out.trans (hBy.mono HBw.out.size))))
          unfold UndEnd at HU
          have HBy := Lib.hid hBy
          have HbY := Lib.hid (blk_new wr #[.string ⟨yn.toArray⟩, .int .i64 yk, .int .i64 yt, .string ⟨yd.toArray⟩] 43)
          clear hG hbr hBy
          unfold recV at hcb
          dsimp only at hcb
          by_cases hh : Rn.glueHit cut ⟨xn, xk, xt, xd⟩ ⟨yn, yk, yt, yd⟩ = true
          · have hjn := Hjn.out
            rw [if_pos hh] at hjn
            unfold Rn.glueHit at hh
            simp only [Bool.and_eq_true, decide_eq_true_eq] at hh
            obtain ⟨hu, hk1, hd1⟩ := hh
            subst hk1 hd1
            rw [hu] at HU
            have Hjn2 := Lib.hid hjn
            clear hjn hu Hjn
            go_wp2_with fail
            refine HU.out.mono ?_
            rintro e w6 ⟨qq, rfl, -, hB6⟩
            have hB7 := HBy.out.trans (hB6.mono HBy.out.size)
            have hbr6 := Hbr.out.later hB7
            have hq6 := HG.out.blk.later hB7
            have hy6 := HbY.out.later hB6
            have hrow6 := HG.out.row.later hB7
            have hb6 := HG.out.bel.trans (hB7.mono HG.out.bel.size)
            have e0 := fun i => hbr6.cell i
            have e1 := fun i => hq6.cell i
            have e2 := fun i => hy6.cell i
            have hl6 := hbr6.lt
            have hlq := hq6.lt
            have hly := hy6.lt
            have HG6 := Lib.hid (HG.out.later hB7)
            have Hbr6 := Lib.hid hbr6
            unfold recV at e0
            dsimp only at e0
            clear hcb d0 d1 d2 d3 hB6 hB7 hbr6 hq6 hy6 hb6
            have hsz := HG6.out.bel.size
            obtain ⟨i0, hi, hz0, hz1, hz2⟩ := info_parts info39
            have hB8 := (Below.refl _ w6).alloc (Nat.le_refl _) (.cells #[.string ⟨xn.toArray⟩, .int .i64 1, .int .i64 xt, .string ⟨xd.toArray⟩] 43)
            have HG7 := Lib.hid (HG6.out.later hB8)
            have Hbr7 := Lib.hid (Hbr6.out.later hB8)
            by_cases hge : Gc = []
            · have hgv := HG.out.nil hge
              subst hge hgv
              go_wp2_with (at_builtin; refine wpList_append_own _ rfl _ _ 22 rfl (w6.heap.size + 1) 43 i0 _ 4 48 Tryz.underlying22 hi hz0 hz1 hz2 rfl (by decide) (.slice none 0 0) 0 [] rfl (World.ownsRow_nil _ _ _ _) _ 1 1 (recV ⟨xn, 1, xt, xd⟩) rfl rfl ?c1 (rec_one _) ?c3 ?c4 ?c5 ?_)
              case c1 => exact World.news_of_block (cs := (recV ⟨xn, 1, xt, xd⟩).toArray) (fr := (0, 0)) (blk_new w6 _ _)
              case c3 => unfold maxLen; omega
              case c4 => omega
              case c5 => simp
              intro v' w8 hown' hgrow' _
              obtain ⟨av', capv', rfl⟩ := ownsRow_val hown'
              obtain ⟨gi, bk⟩ := gl_append HG7.out Hbr7.out (by simp [Value.ownBlock]) (World.ownsRow.mono hown' (by omega)) hgrow' (Nat.le_refl _)
              have hfin : GlIn G0 cut ⟨xn, 1, xt, xd⟩ S w3.heap.size w5.heap.size (.slice (some ⟨b2, p2, none⟩) S.length sc) w3 (j + 1) (w8.setCell ⟨w3.heap.size, 3, none⟩ (.slice av' (0 + 1) capv')) :=
                ⟨_, by rw [Hjn2.out, ← List.append_assoc, HGc.out]; exact gi, bk, fun e => by have h1 := (World.ownsRow.lt hown' _ e).1; omega⟩
              have hq8 := HG7.out.blk.grown hgrow' (HG7.out.row.far HG7.out.blk (by decide))
              have g1 := fun i => hq8.cell i
              have g2 := fun i => hq8.froz i
              have HF := Lib.hid hfin
              clear e0 e1 e2 hown' hgrow' gi bk hfin hq8 HG7 Hbr7 hB8 HG6 Hbr6
              go_wp2
              refine ⟨⟨j + 1, by omega, by go_num, HF.out⟩, by simp [intOf]; omega⟩
            · obtain ⟨av, capv, rfl⟩ := ownsRow_val HG7.out.row
              go_wp2_with (at_builtin; refine wpList_append_own _ rfl _ _ 22 rfl w3.heap.size 43 i0 _ 4 48 Tryz.underlying22 hi hz0 hz1 hz2 rfl (by decide) _ _ _ rfl HG7.out.row _ 1 1 (recV ⟨xn, 1, xt, xd⟩) rfl rfl ?c1 (rec_one _) ?c3 ?c4 ?c5 ?_)
              case c1 => exact World.news_of_block (cs := (recV ⟨xn, 1, xt, xd⟩).toArray) (fr := (0, 0)) (blk_new w6 _ _)
              case c3 => unfold maxLen; omega
              case c4 => omega
              case c5 => simp; omega
              intro v' w8 hown' hgrow' _
              obtain ⟨av', capv', rfl⟩ := ownsRow_val hown'
              have hfar8 := append_far hown' hgrow' Hbr7.out rfl Hfar.out (List.length_pos_iff.2 hge)
              obtain ⟨gi, bk⟩ := gl_append HG7.out Hbr7.out Hfar.out (World.ownsRow.mono hown' (Nat.le_refl _)) hgrow' (Nat.le_refl _)
              have hfin : GlIn G0 cut ⟨xn, 1, xt, xd⟩ S w3.heap.size w5.heap.size (.slice (some ⟨b2, p2, none⟩) S.length sc) w3 (j + 1) (w8.setCell ⟨w3.heap.size, 3, none⟩ (.slice av' (Gc.length + 1) capv')) :=
                ⟨_, by rw [Hjn2.out, ← List.append_assoc, HGc.out]; exact gi, bk, hfar8⟩
              have hq8 := HG7.out.blk.grown hgrow' (HG7.out.row.far HG7.out.blk (by decide))
              have g1 := fun i => hq8.cell i
              have g2 := fun i => hq8.froz i
              have HF := Lib.hid hfin
              clear e0 e1 e2 hown' hgrow' gi bk hfin hq8 HG7 Hbr7 hB8 HG6 Hbr6
              go_wp2
              refine ⟨⟨j + 1, by omega, by go_num, HF.out⟩, by simp [intOf]; omega⟩
          · have hjn := Hjn.out
            rw [if_neg hh, List.append_nil] at hjn
            have Hjn2 := Lib.hid hjn
            have hcases : (Zn.under xn cut = false) ∨ (Zn.under xn cut = true ∧ (xk == 1) = false) ∨ (Zn.under xn cut = true ∧ (xk == 1) = true ∧ (xn == yd) = false) := by
              unfold Rn.glueHit at hh
              cases hu : Zn.under xn cut with
              | false => exact .inl rfl
              | true =>
                refine .inr ?_
                by_cases e1 : xk = 1
                · refine .inr ⟨rfl, by rw [beq_iff_eq]; exact e1, beq_eq_false_iff_ne.2 fun e2 => hh ?_⟩
                  simp [← e2, hu, e1]
                · exact .inl ⟨rfl, beq_eq_false_iff_ne.2 e1⟩
            clear hjn hh Hjn
            rcases hcases with hu | ⟨hu, hk1⟩ | ⟨hu, hk1, hn1⟩
            all_goals
              rw [hu] at HU
              clear hu
              go_wp2_with fail
              refine HU.out.mono ?_
              rintro e w6 ⟨qq, rfl, -, hB6⟩
              have hB7 := HBy.out.trans (hB6.mono HBy.out.size)
              have hbr6 := Hbr.out.later hB7
              have hy6 := HbY.out.later hB6
              have hfin : GlIn G0 cut ⟨xn, xk, xt, xd⟩ S w3.heap.size w5.heap.size (.slice (some ⟨b2, p2, none⟩) S.length sc) w3 (j + 1) w6 :=
                ⟨gv, by rw [Hjn2.out, HGc.out]; exact HG.out.later hB7, hbr6, Hfar.out⟩
              have HF := Lib.hid hfin
              have e0 := fun i => hbr6.cell i
              have e2 := fun i => hy6.cell i
              have hl6 := hbr6.lt
              have hly := hy6.lt
              unfold recV at e0
              dsimp only at e0
              clear hcb d0 d1 d2 d3 hB6 hB7 hbr6 hy6 hfin
              go_wp2
              refine ⟨⟨j + 1, by omega, by go_num, HF.out⟩, by simp [intOf]; omega⟩
        · obtain rfl : j = S.length := by omega
          have hfin : GlOut l cut S w3.heap.size (.slice sa S.length sc) w3 (k + 1) wr := by
            refine ⟨gv, ?_⟩
            rw [Hnext.out]
            rw [List.take_length] at hGc
            rw [hGc]
            exact hG
          have HF := Lib.hid hfin
          clear hfin hG hbr hGc
          go_wp2
          refine ⟨⟨k + 1, by omega, by go_num, HF.out⟩, by simp [intOf]; omega⟩
    · obtain rfl : k = l.length := by omega
      rw [List.take_length] at hI
      obtain ⟨av0, capv0, rfl⟩ := ownsRow_val hI.row
      have HF := Lib.hid hI
      have hq := Hq3.out.later (hI.bel)
      have hlq := hq.lt
      have f1 := fun i => hq.cell i
      have f2 := fun i => hq.froz i
      have HQ := Lib.hid hq
      clear hI hq HII
      go_wp2
      refine bodyPost_ret (results_cell_row rfl _ _ (w.heap.size + 1) 39 _ (0, 0) _ rfl (five_blk HQ.out) Tryz.underlying39 rfl (by kernel_rfl)) rfl ?_
      have h2 := Hlt2.out
      have h3 := Hsz.out
      have h4 := Hq3.out.lt
      exact ⟨_, rfl, ⟨_, _, _, rfl, rowR_nil _ _, ((HS.out.later HF.out.bel).five h2).mono h3, (HF.out.row.five h4).mono HB3.out.size⟩, five_lo HBt.out (by omega)⟩
end Go.Proofs.YtajllcbjgndcpaaGreatDoor
