/- WALK: Get, where check accepts. -/
import Derived.Test.YtajllcbjgndcpaaDoorK14
namespace Go.Proofs.YtajllcbjgndcpaaDoor
open Go.RowKit Go.Maps
def kdAt (kind : Int) (j : Nat) : Int := if j = 0 then 0 else kind
theorem idx_map {l : List EV} {es : List Cb.Ent} (h : l.map (·.e) = es) (p : Cb.Ent → Bool) : idxOf l (fun x => p x.e) = match es.findIdx? p with | some k => (k : Int) | none => -1 := by
  subst h
  unfold idxOf
  rw [List.findIdx?_map]; rfl

theorem got_says {c : Cb.Cac} {name : Lb.Bs} {kind now : Int} (h : Cb.chk c name kind now = 0) : Cb.got c name kind now = (Cb.spot (Cb.live now c.es) name kind).bind fun k => ((Cb.live now c.es)[k]?).map (Cb.answer · now) := by
  unfold Cb.got
  rw [if_neg (by simp [h])]
  cases Cb.spot (Cb.live now c.es) name kind <;> rfl
theorem get_says {c : Cb.Cac} {name : Lb.Bs} {kind now : Int} (h : Cb.chk c name kind now = 0) : Cb.get c name kind now = ⟨c.room, now, ((Cb.spot (Cb.live now c.es) name kind).map (Cb.getE (Cb.live now c.es))).getD (Cb.live now c.es)⟩ := by
  unfold Cb.get
  rw [if_neg (by simp [h])]
  cases Cb.spot (Cb.live now c.es) name kind <;> rfl
/-- Get's middle: the entry that was found lies last, and in a box. -/
def GetMid (B pb : Nat) (room now : Int) (es' : List Cb.Ent) (x : EV) (xb : Nat) (w0 wx : World) : Prop :=
  (∃ xs' v', Cch B pb wx ⟨room, now, es'⟩ xs' v' ∧ x ∈ xs') ∧ Fr B pb w0 wx ∧ wx.heap[xb]? = some (.cells (entV x).toArray 75 (0, 0))
theorem map_erase {α β : Type} (f : α → β) : ∀ (l : List α) (k : Nat), (l.eraseIdx k).map f = (l.map f).eraseIdx k
  | [], _ => rfl
  | _ :: _, 0 => rfl
  | _ :: l, k + 1 => by simp [map_erase f l k]
/-- The records, the first t made older. -/
def mixT (d : Int) (l : List Cb.Rec) (t : Nat) : List Cb.Rec := (l.take t).map (Cb.older d) ++ l.drop t
theorem mixT_len (d : Int) (l : List Cb.Rec) (t : Nat) : (mixT d l t).length = l.length := by unfold mixT; simp; omega
theorem mixT_at (d : Int) {l : List Cb.Rec} {t : Nat} {r : Cb.Rec} (h : l[t]? = some r) : (mixT d l t)[t]? = some r := by
  have ht := (List.getElem?_eq_some_iff.1 h).1
  have hl : ((l.take t).map (Cb.older d)).length = t := by simp; omega
  unfold mixT
  rw [List.getElem?_append_right (by omega), hl, Nat.sub_self, List.getElem?_drop, Nat.add_zero, h]
theorem mixT_next (d : Int) {l : List Cb.Rec} {t : Nat} {r : Cb.Rec} (h : l[t]? = some r) : (mixT d l t).set t { r with ttl := r.ttl - d } = mixT d l (t + 1) := by
  have ht := (List.getElem?_eq_some_iff.1 h).1
  have hl : ((l.take t).map (Cb.older d)).length = t := by simp; omega
  have hd : l.drop t = r :: l.drop (t + 1) := by
    obtain ⟨h1, rfl⟩ := List.getElem?_eq_some_iff.1 h
    exact List.drop_eq_getElem_cons h1
  unfold mixT
  rw [List.set_append_right _ _ (by omega), hl, Nat.sub_self, hd, List.set_cons_zero, List.take_add_one, h, List.map_append, List.append_assoc]
  rfl
theorem mixT_end (d : Int) (l : List Cb.Rec) : mixT d l l.length = l.map (Cb.older d) := by unfold mixT; simp
section
variable {B pb : Nat} {c : Cb.Cac} {xs : List EV} {v : Value}
set_option maxHeartbeats 6400000 in
set_option maxRecDepth 100000 in
theorem get_ok (w : World) (henv : Env w) (hI : Cb.Inv c) (h : Cch B pb w c xs v) (s : ByteArray) (kind now : Int) (hk : Cb.chk c s.data.toList kind now = 0) :
    Calls Tryd.prog 15 #[.pointer (some ⟨pb, 0, none⟩), .string s, .int .i64 kind, .int .i64 now] w (GetEnd B pb c s.data.toList kind now w) := by
  have hBa : Below w.heap.size w (w.alloc (.cells #[.int .i64 0, .slice none 0 0, .slice none 0 0, .slice none 0 0, .int .i64 0] 31)) := (Below.refl _ w).alloc (Nat.le_refl _) _
  have hC := check_cache_any _ (henv.later hBa) (h.later hBa) s kind now
  rw [hk] at hC
  have HC := Lib.hid hC
  have HI := Lib.hid hI
  have H0 := Lib.hid h
  have Hk := Lib.hid hk
  obtain ⟨-, -, -, hn0, hn1, -⟩ := Cb.chk_ok hk
  have hpne : w.heap.size ≠ pb := Ne.symm (Nat.ne_of_lt h.lt)
  clear hC hI h hk
  go_enter Tryd.func15, Tryd.ntmps15
  go_wp2_with fail
  refine HC.out.mono ?_
  rintro e w1 ⟨rfl, hB⟩
  have hB1 := hBa.trans (hB.mono hBa.size)
  have Rb1 := Lib.hid ((hB.block w.heap.size (by simp)).trans (heap_alloc_new w _))
  have hlt1 : w.heap.size < w1.heap.size := by have := hB.size; simp at this; omega
  clear HC hB hBa
  go_wp2_with fail
  refine (expire_any w1 (H0.out.later hB1) now).mono ?_
  rintro e w2 ⟨rfl, ⟨v1, hC1⟩, hF1⟩
  have Rb2 := Lib.hid (keptEnt hF1 Rb1.out hpne (by decide))
  have HF2 := Lib.hid ((Fr.of_below hB1 H0.out.bs).trans hF1)
  have hlt2 : w.heap.size < w2.heap.size := Nat.lt_of_lt_of_le hlt1 hF1.below.size
  have hsub : ∀ x ∈ liveX now xs, x ∈ xs := fun x hx => (List.mem_filter.1 hx).1
  have HIL := Lib.hid (Cb.inv_live HI.out (now := now) (Cb.chk_ok Hk.out).2.2.2.2.2)
  have HGOT := Lib.hid (got_says Hk.out)
  have HGET := Lib.hid (get_says Hk.out)
  generalize Cb.live now c.es = es1 at *
  generalize liveX now xs = xs1 at *
  have HC2 := Lib.hid hC1
  have hplt := hC1.lt
  have hplne := Nat.ne_of_lt hplt
  clear hF1 hC1 hsub
  go_wp2
  have Qs := Lib.hid (heap_alloc_new w2 (.cells #[.string s, .int .i64 0, .string s, .int .i64 kind] 71))
  have HC3 := Lib.hid (HC2.out.later ((Below.refl _ _).alloc (Nat.le_refl _) (.cells #[.string s, .int .i64 0, .string s, .int .i64 kind] 71)))
  have HF3 := Lib.hid (HF2.out.trans (Fr.alloc HC2.out.bs (.cells #[.string s, .int .i64 0, .string s, .int .i64 kind] 71)))
  have Rb3 := Lib.hid ((Below.heap_alloc w2 (.cells #[.string s, .int .i64 0, .string s, .int .i64 kind] 71) _ hlt2).trans Rb2.out)
  have hz3 : (w2.alloc (.cells #[.string s, .int .i64 0, .string s, .int .i64 kind] 71)).heap.size = w2.heap.size + 1 := by simp
  generalize w2.alloc (.cells #[.string s, .int .i64 0, .string s, .int .i64 kind] 71) = w3 at *
  have hq3 : w2.heap.size < w3.heap.size := by omega
  have Hz3 := Lib.hid hz3
  clear hz3
  go_loopw [37] (fun i wr => ∃ j : Nat, j ≤ 2 ∧ i = .int .i64 j ∧ Hid (∀ t, t < j → es1.findIdx? (Cb.isQ s.data.toList (kdAt kind t)) = none) ∧ Below w3.heap.size w3 wr) (fun i _ => 2 - (intOf i).toNat)
  case atStart => exact ⟨0, Nat.zero_le _, rfl, fun t ht => absurd ht (Nat.not_lt_zero t), Below.refl _ _⟩
  case round =>
    obtain ⟨j, hj, rfl, Hno, hB3⟩ := hrel
    have HB3 := Lib.hid hB3
    have hqs : wr.heap[w2.heap.size]? = _ := (hB3.block _ hq3).trans Qs.out
    have hz : w3.heap.size ≤ wr.heap.size := hB3.size
    by_cases hlt : j < 2
    · obtain ⟨kd, hkd⟩ : ∃ kd, kd = kdAt kind j := ⟨_, rfl⟩
      have c0 : wr.cell? ⟨w2.heap.size, j * 2, none⟩ = some (.string s) := by
        rw [cell_of_row wr _ (j * 2) _ _ _ hqs]
        obtain rfl | rfl : j = 0 ∨ j = 1 := by omega
        · rfl
        · rfl
      have c1 : wr.cell? ⟨w2.heap.size, j * 2 + 1, none⟩ = some (.int .i64 kd) := by
        rw [cell_of_row wr _ (j * 2 + 1) _ _ _ hqs, hkd]
        obtain rfl | rfl : j = 0 ∨ j = 1 := by omega
        · rfl
        · rfl
      have Hkd := Lib.hid hkd
      have hj0 : (0 : Int) ≤ (j : Int) := by omega
      have hj2 : (j : Int) < 2 := by omega
      have HC4 := Lib.hid (HC3.out.later hB3)
      have k2 := HC4.out.c2
      have hpr : pb < wr.heap.size := HC4.out.lt
      have hprn : pb ≠ wr.heap.size := Nat.ne_of_lt hpr
      obtain ⟨a1, cp1, rfl, hcp1, hcm1, hg1⟩ := HC4.out.row.val
      have hC5 := HC4.out.later ((Below.refl _ wr).alloc (Nat.le_refl _) (.cells #[.string s, .int .i64 kd] 71))
      have HX := Lib.hid (index_any B 37 #[.pointer (some ⟨wr.heap.size, 0, none⟩)] (fun x => Cb.isQ s.data.toList kd x.e) _ xs1 _ enters37 (row := none)
        (fun W x hW => get1_any x wr.heap.size s kd W (by rw [cell_of_row W _ 0 _ _ _ ((hW.block wr.heap.size (by simp) (by simp)).trans (heap_alloc_new wr _))]; rfl) (by rw [cell_of_row W _ 1 _ _ _ ((hW.block wr.heap.size (by simp) (by simp)).trans (heap_alloc_new wr _))]; rfl)) hC5.row)
      have HC5 := Lib.hid hC5
      have hes1 : xs1.map (·.e) = es1 := HC5.out.es
      have hB5a : Below w3.heap.size w3 (wr.alloc (.cells #[.string s, .int .i64 kd] 71)) := hB3.alloc hz _
      have HB5a := Lib.hid hB5a
      cases hf : es1.findIdx? (Cb.isQ s.data.toList kd) with
      | none =>
        have hix : idxOf xs1 (fun x => Cb.isQ s.data.toList kd x.e) = -1 := by rw [idx_map hes1, hf]
        have hX := HX.out
        rw [hix] at hX
        have HX2 := Lib.hid hX
        have Hno2 : Hid (∀ t, t < j + 1 → es1.findIdx? (Cb.isQ s.data.toList (kdAt kind t)) = none) := by
          intro t ht
          by_cases e : t = j
          · rw [e, ← hkd]; exact hf
          · exact Hno.out t (by omega)
        clear hkd hqs hC5 hB3 hX hix hf hes1 hB5a HX
        go_wp2_with fail
        refine HX2.out.mono ?_
        rintro e w5 ⟨rfl, hb5⟩
        have HB5 := Lib.hid (HB5a.out.trans (hb5.mono (by simp; omega)))
        clear hb5
        go_wp2
        refine ⟨⟨j + 1, by omega, by go_num, Hno2, HB5.out⟩, by simp [intOf]; omega⟩
      | some k =>
        have hix : idxOf xs1 (fun x => Cb.isQ s.data.toList kd x.e) = k := by rw [idx_map hes1, hf]
        have hX := HX.out
        rw [hix] at hX
        have HX2 := Lib.hid hX
        have hkl : k < es1.length := (List.findIdx?_eq_some_iff_getElem.1 hf).1
        have hxl : xs1.length = es1.length := by rw [← hes1, List.length_map]
        obtain ⟨x, hx⟩ : ∃ x, xs1[k]? = some x := ⟨xs1[k]'(by omega), List.getElem?_eq_getElem _⟩
        have hxe : es1[k]? = some x.e := by rw [← hes1, List.getElem?_map, hx]; rfl
        have hspot : Cb.spot es1 s.data.toList kind = some k := by
          unfold Cb.spot
          obtain rfl | rfl : j = 0 ∨ j = 1 := by omega
          · rw [hkd, show kdAt kind 0 = 0 from rfl] at hf
            rw [hf]
          · rw [hkd, show kdAt kind 1 = kind from rfl] at hf
            have h0 := Hno.out 0 (by omega)
            rw [show kdAt kind 0 = 0 from rfl] at h0
            rw [h0]; exact hf
        have Hspot := Lib.hid hspot
        have Hx := Lib.hid hx
        have Hxe := Lib.hid hxe
        have Hf := Lib.hid hf
        have Hes := Lib.hid hes1
        have hk0 : (0 : Int) ≤ (k : Int) := by omega
        have hkl' : (k : Int) < (xs1.length : Int) := by omega
        have hkx : k < xs1.length := by omega
        obtain ⟨g, rfl, hBg, hgl⟩ := hg1 (by intro e; rw [e] at hkx; simp at hkx)
        clear hkd hqs hC5 hB3 hX hix hf hes1 hB5a HX hspot hx hxe hkl hxl hg1
        go_wp2_with fail
        refine HX2.out.mono ?_
        rintro e w5 ⟨rfl, hb5⟩
        have hC6 := HC5.out.later hb5
        have k2' := hC6.c2
        have d0 : w5.cell? ⟨g, k * 9, none⟩ = _ := hC6.row.cells Hx.out (i := 0) rfl
        have d1 := hC6.row.cells Hx.out (i := 1) rfl
        have d2 := hC6.row.cells Hx.out (i := 2) rfl
        have d3 := hC6.row.cells Hx.out (i := 3) rfl
        have d4 := hC6.row.cells Hx.out (i := 4) rfl
        have d5 := hC6.row.cells Hx.out (i := 5) rfl
        have d6 := hC6.row.cells Hx.out (i := 6) rfl
        have d7 := hC6.row.cells Hx.out (i := 7) rfl
        have d8 := hC6.row.cells Hx.out (i := 8) rfl
        have HC6 := Lib.hid hC6
        have HB5 := Lib.hid (HB5a.out.trans (hb5.mono (by simp; omega)))
        clear hC6 hb5
        go_upto_region 11 with fail
        have hX6 := heap_alloc_new w5 (.cells #[.string ⟨x.e.name.toArray⟩, .int .i64 x.e.kind, .int .i64 x.e.code, .slice x.ra x.e.recs.length x.rc, .slice x.sa 0 x.sc, .slice x.ga 0 x.gc, .int .i64 x.e.neg, .int .i64 x.e.at_, .int .i64 x.e.til] 75)
        have hB6 : Below w5.heap.size w5 (w5.alloc (.cells #[.string ⟨x.e.name.toArray⟩, .int .i64 x.e.kind, .int .i64 x.e.code, .slice x.ra x.e.recs.length x.rc, .slice x.sa 0 x.sc, .slice x.ga 0 x.gc, .int .i64 x.e.neg, .int .i64 x.e.at_, .int .i64 x.e.til] 75)) := (Below.refl _ _).alloc (Nat.le_refl _) _
        have hs6 : (w5.alloc (.cells #[.string ⟨x.e.name.toArray⟩, .int .i64 x.e.kind, .int .i64 x.e.code, .slice x.ra x.e.recs.length x.rc, .slice x.sa 0 x.sc, .slice x.ga 0 x.gc, .int .i64 x.e.neg, .int .i64 x.e.at_, .int .i64 x.e.til] 75)).heap.size = w5.heap.size + 1 := by simp
        generalize w5.alloc (.cells #[.string ⟨x.e.name.toArray⟩, .int .i64 x.e.kind, .int .i64 x.e.code, .slice x.ra x.e.recs.length x.rc, .slice x.sa 0 x.sc, .slice x.ga 0 x.gc, .int .i64 x.e.neg, .int .i64 x.e.at_, .int .i64 x.e.til] 75) = w6 at *
        have HC7 := Lib.hid (HC6.out.later hB6)
        have HB6 := Lib.hid (HB5.out.trans (hB6.mono HB5.out.size))
        have Xb := Lib.hid (show w6.heap[w5.heap.size]? = some (.cells (entV x).toArray 75 (0, 0)) from hX6)
        have hxl6 : w5.heap.size < w6.heap.size := by omega
        have hpx : pb ≠ w5.heap.size := Nat.ne_of_lt HC6.out.lt
        have hxg : some w5.heap.size ≠ (Value.slice (some ⟨g, 0, none⟩) xs1.length cp1).ownBlock := by
          intro e
          have : w5.heap.size = g := by simpa [Value.ownBlock] using e
          obtain ⟨_, hl, _⟩ := HC6.out.row.block g rfl
          omega
        have kk := HC7.out.c2
        have hD : ∀ W, Below w6.heap.size w6 W → Calls Tryd.prog 34 #[.slice (some ⟨g, 0, none⟩) xs1.length cp1, .int .i64 k, .int .i64 ((k : Int) + 1)] W (DelEnd B W (.slice (some ⟨g, 0, none⟩) xs1.length cp1) (xs1.eraseIdx k)) := fun W hW => by
          have h1 := delete_any B _ xs1 k W (HC7.out.row.later hW) hkx
          rw [show ((k + 1 : Nat) : Int) = (k : Int) + 1 by omega] at h1
          exact h1
        have HD := Lib.hid hD
        have hlen1 : xs1.length ≤ 40 := by
          have : xs1.length = es1.length := by rw [← Hes.out, List.length_map]
          have h1 := HIL.out.room
          have h2 := HIL.out.small
          simp only at h1 h2
          omega
        have hle : (xs1.eraseIdx k).length ≤ 40 := Nat.le_trans (List.length_eraseIdx_le _ _) hlen1
        have Hge := Lib.hid (show (xs1.eraseIdx k ++ [x]).map (·.e) = Cb.getE es1 k by
          unfold Cb.getE
          rw [Hxe.out, List.map_append, ← Hes.out, map_erase]; rfl)
        have Hok := Lib.hid (show ∀ y ∈ xs1.eraseIdx k ++ [x], y ∈ xs1 ∨ EOk B w6 y by
          intro y hy
          rcases List.mem_append.1 hy with hy | hy
          · exact .inl (List.mem_of_mem_eraseIdx hy)
          · rw [List.mem_singleton] at hy
            exact .inl (hy ▸ List.mem_of_getElem? Hx.out))
        obtain ⟨i0, hi0, hz0, hz1, hz2⟩ := info_parts info75
        clear hX6 hB6 hs6 d0 d1 d2 d3 d4 d5 d6 d7 d8 k2' hD
        go_cut [] (fun wx => GetMid B pb c.room now (Cb.getE es1 k) x w5.heap.size w6 wx)
        case first =>
          have hS1 : (fun W => W.cell? ⟨pb, 2, none⟩ = some (.slice (some ⟨g, 0, none⟩) xs1.length cp1) ∧ W.cell? ⟨w5.heap.size, 0, none⟩ = some (.string ⟨x.e.name.toArray⟩) ∧ W.cell? ⟨w5.heap.size, 1, none⟩ = some (.int .i64 x.e.kind) ∧ W.cell? ⟨w5.heap.size, 2, none⟩ = some (.int .i64 x.e.code) ∧ W.cell? ⟨w5.heap.size, 3, none⟩ = some (.slice x.ra x.e.recs.length x.rc) ∧ W.cell? ⟨w5.heap.size, 4, none⟩ = some (.slice x.sa 0 x.sc) ∧ W.cell? ⟨w5.heap.size, 5, none⟩ = some (.slice x.ga 0 x.gc) ∧ W.cell? ⟨w5.heap.size, 6, none⟩ = some (.int .i64 x.e.neg) ∧ W.cell? ⟨w5.heap.size, 7, none⟩ = some (.int .i64 x.e.at_) ∧ W.cell? ⟨w5.heap.size, 8, none⟩ = some (.int .i64 x.e.til)) w6.drew := ⟨kk, by show (w6).cell? _ = _; rw [cell_of_row _ _ 0 _ _ _ Xb.out]; rfl, by show (w6).cell? _ = _; rw [cell_of_row _ _ 1 _ _ _ Xb.out]; rfl, by show (w6).cell? _ = _; rw [cell_of_row _ _ 2 _ _ _ Xb.out]; rfl, by show (w6).cell? _ = _; rw [cell_of_row _ _ 3 _ _ _ Xb.out]; rfl, by show (w6).cell? _ = _; rw [cell_of_row _ _ 4 _ _ _ Xb.out]; rfl, by show (w6).cell? _ = _; rw [cell_of_row _ _ 5 _ _ _ Xb.out]; rfl, by show (w6).cell? _ = _; rw [cell_of_row _ _ 6 _ _ _ Xb.out]; rfl, by show (w6).cell? _ = _; rw [cell_of_row _ _ 7 _ _ _ Xb.out]; rfl, by show (w6).cell? _ = _; rw [cell_of_row _ _ 8 _ _ _ Xb.out]; rfl⟩
          have hsum : IntKind.i64.wrap ((k : Int) + 1) = (k : Int) + 1 := IntWalk.i64_in _ (by omega)
          refine wp_region_due [0, 1, 2, 3, 4, 5, 6, 7, 8, 9, 10, 11] (fun W => W.cell? ⟨pb, 2, none⟩ = some (.slice (some ⟨g, 0, none⟩) xs1.length cp1) ∧ W.cell? ⟨w5.heap.size, 0, none⟩ = some (.string ⟨x.e.name.toArray⟩) ∧ W.cell? ⟨w5.heap.size, 1, none⟩ = some (.int .i64 x.e.kind) ∧ W.cell? ⟨w5.heap.size, 2, none⟩ = some (.int .i64 x.e.code) ∧ W.cell? ⟨w5.heap.size, 3, none⟩ = some (.slice x.ra x.e.recs.length x.rc) ∧ W.cell? ⟨w5.heap.size, 4, none⟩ = some (.slice x.sa 0 x.sc) ∧ W.cell? ⟨w5.heap.size, 5, none⟩ = some (.slice x.ga 0 x.gc) ∧ W.cell? ⟨w5.heap.size, 6, none⟩ = some (.int .i64 x.e.neg) ∧ W.cell? ⟨w5.heap.size, 7, none⟩ = some (.int .i64 x.e.at_) ∧ W.cell? ⟨w5.heap.size, 8, none⟩ = some (.int .i64 x.e.til)) (by kernel_rfl) ?_
          refine wpDue_take (i := 0) (v := ?_) rfl (by kernel_rfl) (by kernel_rfl) (by kernel_rfl) (by kernel_rfl) (fun _ _ _ h => h) hS1 (.inl ⟨by rfl, ?_⟩) ?_
          rotate_left
          · intro W hW; (try dsimp only at hW); go_simp; try with_reducible rfl
          try simp only [Act.put]
          try simp only [List.setIfInBounds_toArray]
          try simp only [List.set_cons_succ]
          try simp only [List.set_cons_zero]
          refine wpDue_take (i := 1) (v := ?_) rfl (by kernel_rfl) (by kernel_rfl) (by kernel_rfl) (by kernel_rfl) (fun _ _ _ h => h) hS1 (.inl ⟨by rfl, ?_⟩) ?_
          rotate_left
          · intro W hW; (try dsimp only at hW); go_simp; try with_reducible rfl
          try simp only [Act.put]
          try simp only [List.setIfInBounds_toArray]
          try simp only [List.set_cons_succ]
          try simp only [List.set_cons_zero]
          refine wpDue_take (i := 2) (v := ?_) rfl (by kernel_rfl) (by kernel_rfl) (by kernel_rfl) (by kernel_rfl) (fun _ _ _ h => h) hS1 (.inl ⟨by rfl, ?_⟩) ?_
          rotate_left
          · intro W hW; (try dsimp only at hW); go_simp; try with_reducible rfl
          try simp only [Act.put]
          try simp only [List.setIfInBounds_toArray]
          try simp only [List.set_cons_succ]
          try simp only [List.set_cons_zero]
          refine wpDue_take (i := 3) (v := ?_) rfl (by kernel_rfl) (by kernel_rfl) (by kernel_rfl) (by kernel_rfl) (fun _ _ _ h => h) hS1 (.inl ⟨by rfl, ?_⟩) ?_
          rotate_left
          · intro W hW; (try dsimp only at hW); go_simp; try with_reducible rfl
          try simp only [Act.put]
          try simp only [List.setIfInBounds_toArray]
          try simp only [List.set_cons_succ]
          try simp only [List.set_cons_zero]
          refine wpDue_take (i := 4) (v := ?_) rfl (by kernel_rfl) (by kernel_rfl) (by kernel_rfl) (by kernel_rfl) (fun _ _ _ h => h) hS1 (.inl ⟨by rfl, ?_⟩) ?_
          rotate_left
          · intro W hW; (try dsimp only at hW); go_simp; try with_reducible rfl
          try simp only [Act.put]
          try simp only [List.setIfInBounds_toArray]
          try simp only [List.set_cons_succ]
          try simp only [List.set_cons_zero]
          refine wpDue_take (i := 5) (v := ?_) rfl (by kernel_rfl) (by kernel_rfl) (by kernel_rfl) (by kernel_rfl) (fun _ _ _ h => h) hS1 (.inl ⟨by rfl, ?_⟩) ?_
          rotate_left
          · intro W hW; (try dsimp only at hW); go_simp; try with_reducible rfl
          try simp only [Act.put]
          try simp only [List.setIfInBounds_toArray]
          try simp only [List.set_cons_succ]
          try simp only [List.set_cons_zero]
          refine wpDue_take (i := 6) (v := ?_) rfl (by kernel_rfl) (by kernel_rfl) (by kernel_rfl) (by kernel_rfl) (fun _ _ _ h => h) hS1 (.inl ⟨by rfl, ?_⟩) ?_
          rotate_left
          · intro W hW; (try dsimp only at hW); go_simp; try with_reducible rfl
          try simp only [Act.put]
          try simp only [List.setIfInBounds_toArray]
          try simp only [List.set_cons_succ]
          try simp only [List.set_cons_zero]
          refine wpDue_take (i := 7) (v := ?_) rfl (by kernel_rfl) (by kernel_rfl) (by kernel_rfl) (by kernel_rfl) (fun _ _ _ h => h) hS1 (.inl ⟨by rfl, ?_⟩) ?_
          rotate_left
          · intro W hW; (try dsimp only at hW); go_simp; try with_reducible rfl
          try simp only [Act.put]
          try simp only [List.setIfInBounds_toArray]
          try simp only [List.set_cons_succ]
          try simp only [List.set_cons_zero]
          refine wpDue_take (i := 9) (v := ?_) rfl (by kernel_rfl) (by kernel_rfl) (by kernel_rfl) (by kernel_rfl) (fun _ _ _ h => h) hS1 (.inl ⟨by rfl, ?_⟩) ?_
          rotate_left
          · intro W hW; (try dsimp only at hW); go_simp; try with_reducible rfl
          try simp only [Act.put]
          try simp only [List.setIfInBounds_toArray]
          try simp only [List.set_cons_succ]
          try simp only [List.set_cons_zero]
          clear hsum
          refine wpDue_two (i := 8) (j := 10) (by kernel_rfl) rfl rfl (fun K hK => ?_) (fun K hK => ?_)
          · have HK := Lib.hid hK
            clear hK
            go_simp
            refine (HD.out _ ((Below.refl _ w6).drew)).mono ?_
            rintro e w7 ⟨v', rfl, hr, hv, hg⟩
            obtain ⟨a8, cp8, rfl, hc8, hm8, _⟩ := hr.val
            have hg7 : w6.grownBy w7 (Value.slice (some ⟨g, 0, none⟩) xs1.length cp1).ownBlock := (grown_of_below ((Below.refl _ w6).drew)).trans hg
            have Hv8 := Lib.hid (show (Value.slice a8 (xs1.eraseIdx k).length cp8).ownBlock = (Value.slice (some ⟨g, 0, none⟩) xs1.length cp1).ownBlock from hv.elim (fun h => by rw [h]) id)
            have HP7 := Lib.hid ((hg7.block pb HC7.out.lt (Ne.symm HC7.out.vne)).trans HC7.out.blk)
            have HX7 := Lib.hid ((hg7.block _ hxl6 hxg).trans Xb.out)
            have hz7 := hg7.size
            have kk7 : w7.cell? ⟨pb, 2, none⟩ = some (.slice (some ⟨g, 0, none⟩) xs1.length cp1) := by rw [cell_of_row w7 _ 2 _ _ _ HP7.out]; rfl
            have hS7 : w7.cell? ⟨pb, 2, none⟩ = some (.slice (some ⟨g, 0, none⟩) xs1.length cp1) ∧ w7.cell? ⟨w5.heap.size, 0, none⟩ = some (.string ⟨x.e.name.toArray⟩) ∧ w7.cell? ⟨w5.heap.size, 1, none⟩ = some (.int .i64 x.e.kind) ∧ w7.cell? ⟨w5.heap.size, 2, none⟩ = some (.int .i64 x.e.code) ∧ w7.cell? ⟨w5.heap.size, 3, none⟩ = some (.slice x.ra x.e.recs.length x.rc) ∧ w7.cell? ⟨w5.heap.size, 4, none⟩ = some (.slice x.sa 0 x.sc) ∧ w7.cell? ⟨w5.heap.size, 5, none⟩ = some (.slice x.ga 0 x.gc) ∧ w7.cell? ⟨w5.heap.size, 6, none⟩ = some (.int .i64 x.e.neg) ∧ w7.cell? ⟨w5.heap.size, 7, none⟩ = some (.int .i64 x.e.at_) ∧ w7.cell? ⟨w5.heap.size, 8, none⟩ = some (.int .i64 x.e.til) := ⟨kk7, by show (w7).cell? _ = _; rw [cell_of_row _ _ 0 _ _ _ HX7.out]; rfl, by show (w7).cell? _ = _; rw [cell_of_row _ _ 1 _ _ _ HX7.out]; rfl, by show (w7).cell? _ = _; rw [cell_of_row _ _ 2 _ _ _ HX7.out]; rfl, by show (w7).cell? _ = _; rw [cell_of_row _ _ 3 _ _ _ HX7.out]; rfl, by show (w7).cell? _ = _; rw [cell_of_row _ _ 4 _ _ _ HX7.out]; rfl, by show (w7).cell? _ = _; rw [cell_of_row _ _ 5 _ _ _ HX7.out]; rfl, by show (w7).cell? _ = _; rw [cell_of_row _ _ 6 _ _ _ HX7.out]; rfl, by show (w7).cell? _ = _; rw [cell_of_row _ _ 7 _ _ _ HX7.out]; rfl, by show (w7).cell? _ = _; rw [cell_of_row _ _ 8 _ _ _ HX7.out]; rfl⟩
            have HR7 := Lib.hid hr
            have Hg7 := Lib.hid hg7
            clear hr hv hg hg7 kk7
            refine HK.out _ _ (fun _ => hS7) ?_
            clear HK K
            try simp only [Act.put]
            try simp only [List.setIfInBounds_toArray]
            try simp only [List.set_cons_succ]
            try simp only [List.set_cons_zero]
            refine wpDue_one (i := 10) (by kernel_rfl) rfl (fun K hK => ?_)
            have HK := Lib.hid hK
            clear hK
            go_simp
            have hn8 := heap_alloc_new w7 (.cells #[.string ⟨x.e.name.toArray⟩, .int .i64 x.e.kind, .int .i64 x.e.code, .slice x.ra x.e.recs.length x.rc, .slice x.sa 0 x.sc, .slice x.ga 0 x.gc, .int .i64 x.e.neg, .int .i64 x.e.at_, .int .i64 x.e.til] 75)
            have hBn : Below w7.heap.size w7 (w7.alloc (.cells #[.string ⟨x.e.name.toArray⟩, .int .i64 x.e.kind, .int .i64 x.e.code, .slice x.ra x.e.recs.length x.rc, .slice x.sa 0 x.sc, .slice x.ga 0 x.gc, .int .i64 x.e.neg, .int .i64 x.e.at_, .int .i64 x.e.til] 75)) := (Below.refl _ _).alloc (Nat.le_refl _) _
            generalize w7.alloc (.cells #[.string ⟨x.e.name.toArray⟩, .int .i64 x.e.kind, .int .i64 x.e.code, .slice x.ra x.e.recs.length x.rc, .slice x.sa 0 x.sc, .slice x.ga 0 x.gc, .int .i64 x.e.neg, .int .i64 x.e.at_, .int .i64 x.e.til] 75) = w8 at *
            have HN := Lib.hid (show w8.heap[w7.heap.size]? = some (.cells (entV x).toArray 75 (0, 0)) from hn8)
            have HR8 := Lib.hid (HR7.out.later hBn)
            have Hg8 := Lib.hid (Hg7.out.trans (grown_of_below hBn))
            have HP8 := Lib.hid ((hBn.block pb (Nat.lt_of_lt_of_le HC7.out.lt hz7)).trans HP7.out)
            have HX8 := Lib.hid ((hBn.block _ (Nat.lt_of_lt_of_le hxl6 hz7)).trans HX7.out)
            have hB8 : B ≤ w8.heap.size := Nat.le_trans HC7.out.bs (Nat.le_trans hz7 hBn.size)
            have kk8 : w8.cell? ⟨pb, 2, none⟩ = some (.slice (some ⟨g, 0, none⟩) xs1.length cp1) := by rw [cell_of_row w8 _ 2 _ _ _ HP8.out]; rfl
            have hS8 : w8.cell? ⟨pb, 2, none⟩ = some (.slice (some ⟨g, 0, none⟩) xs1.length cp1) ∧ w8.cell? ⟨w5.heap.size, 0, none⟩ = some (.string ⟨x.e.name.toArray⟩) ∧ w8.cell? ⟨w5.heap.size, 1, none⟩ = some (.int .i64 x.e.kind) ∧ w8.cell? ⟨w5.heap.size, 2, none⟩ = some (.int .i64 x.e.code) ∧ w8.cell? ⟨w5.heap.size, 3, none⟩ = some (.slice x.ra x.e.recs.length x.rc) ∧ w8.cell? ⟨w5.heap.size, 4, none⟩ = some (.slice x.sa 0 x.sc) ∧ w8.cell? ⟨w5.heap.size, 5, none⟩ = some (.slice x.ga 0 x.gc) ∧ w8.cell? ⟨w5.heap.size, 6, none⟩ = some (.int .i64 x.e.neg) ∧ w8.cell? ⟨w5.heap.size, 7, none⟩ = some (.int .i64 x.e.at_) ∧ w8.cell? ⟨w5.heap.size, 8, none⟩ = some (.int .i64 x.e.til) := ⟨kk8, by show (w8).cell? _ = _; rw [cell_of_row _ _ 0 _ _ _ HX8.out]; rfl, by show (w8).cell? _ = _; rw [cell_of_row _ _ 1 _ _ _ HX8.out]; rfl, by show (w8).cell? _ = _; rw [cell_of_row _ _ 2 _ _ _ HX8.out]; rfl, by show (w8).cell? _ = _; rw [cell_of_row _ _ 3 _ _ _ HX8.out]; rfl, by show (w8).cell? _ = _; rw [cell_of_row _ _ 4 _ _ _ HX8.out]; rfl, by show (w8).cell? _ = _; rw [cell_of_row _ _ 5 _ _ _ HX8.out]; rfl, by show (w8).cell? _ = _; rw [cell_of_row _ _ 6 _ _ _ HX8.out]; rfl, by show (w8).cell? _ = _; rw [cell_of_row _ _ 7 _ _ _ HX8.out]; rfl, by show (w8).cell? _ = _; rw [cell_of_row _ _ 8 _ _ _ HX8.out]; rfl⟩
            clear hn8 hBn hS7 kk8
            refine HK.out _ _ (fun _ => hS8) ?_
            clear HK K
            try simp only [Act.put]
            try simp only [List.setIfInBounds_toArray]
            try simp only [List.set_cons_succ]
            try simp only [List.set_cons_zero]
            refine wpDue_one (i := 11) (by kernel_rfl) rfl (fun K hK => ?_)
            have HK := Lib.hid hK
            clear hK
            have hone : ∀ u ∈ entV x, u.oneCell' = true := by
              intro u hu; simp only [entV, List.mem_cons, List.not_mem_nil, or_false] at hu
              rcases hu with rfl | rfl | rfl | rfl | rfl | rfl | rfl | rfl | rfl <;> rfl
            have hnews : ∀ j u, (entV x)[j]? = some u → w8.cell? ((⟨w7.heap.size, 0, none⟩ : Addr).add j) = some u := World.news_of_block (cs := (entV x).toArray) (t := 75) (fr := (0, 0)) HN.out
            refine step_append_lies w8 (by rfl) (.tmp 64) (.tmp 66) 72 (by rfl) B 75 i0 _ 9 128 Tryd.underlying72 hi0 hz0 hz1 hz2 (by rfl) (by decide) (.slice a8 (xs1.eraseIdx k).length cp8) (xs1.eraseIdx k).length ((xs1.eraseIdx k).flatMap entV) (by rfl) HR8.out ⟨w7.heap.size, 0, none⟩ 1 1 (entV x) (by rfl) (by rfl) hnews hone (by decide) (by unfold maxLen; omega) (by omega) hB8 _ rfl ?_
            intro g9 cap w9 hown hgrow hat hlt
            rw [Hv8.out] at hgrow
            have hg9 := Hg8.out.trans hgrow
            have hR9 : RowE B w9 (.slice (some ⟨g9, 0, none⟩) ((xs1.eraseIdx k).length + 1) cap) (xs1.eraseIdx k ++ [x]) := by
              unfold RowE
              rw [List.length_append, List.flatMap_append, List.flatMap_cons, List.flatMap_nil, List.append_nil]
              exact hown
            obtain ⟨hCe, hFe⟩ := HC7.out.addRow hR9 hg9 Hge.out Hok.out
            have hP9 := (hg9.block pb HC7.out.lt (Ne.symm HC7.out.vne)).trans HC7.out.blk
            have hX9 := (hg9.block _ hxl6 hxg).trans Xb.out
            have hend : GetMid B pb c.room now (Cb.getE es1 k) x w5.heap.size w6 (w9.setCell ⟨pb, 2, none⟩ (.slice (some ⟨g9, 0, none⟩) ((xs1.eraseIdx k).length + 1) cap)) :=
              ⟨⟨xs1.eraseIdx k ++ [x], .slice (some ⟨g9, 0, none⟩) ((xs1.eraseIdx k).length + 1) cap, hCe, by simp⟩, hFe, (Below.heap_setCell _ _ _ _ (Ne.symm hpx)).trans hX9⟩
            have Hend := Lib.hid hend
            have hf9 : w9.frozen? ⟨pb, 2, none⟩ = false := frozen_of_row w9 pb 2 _ _ hP9
            have kk : w9.cell? ⟨pb, 2, none⟩ = some (.slice (some ⟨g, 0, none⟩) xs1.length cp1) := by rw [cell_of_row w9 _ 2 _ _ _ hP9]; rfl
            have hS9 : w9.cell? ⟨pb, 2, none⟩ = some (.slice (some ⟨g, 0, none⟩) xs1.length cp1) ∧ w9.cell? ⟨w5.heap.size, 0, none⟩ = some (.string ⟨x.e.name.toArray⟩) ∧ w9.cell? ⟨w5.heap.size, 1, none⟩ = some (.int .i64 x.e.kind) ∧ w9.cell? ⟨w5.heap.size, 2, none⟩ = some (.int .i64 x.e.code) ∧ w9.cell? ⟨w5.heap.size, 3, none⟩ = some (.slice x.ra x.e.recs.length x.rc) ∧ w9.cell? ⟨w5.heap.size, 4, none⟩ = some (.slice x.sa 0 x.sc) ∧ w9.cell? ⟨w5.heap.size, 5, none⟩ = some (.slice x.ga 0 x.gc) ∧ w9.cell? ⟨w5.heap.size, 6, none⟩ = some (.int .i64 x.e.neg) ∧ w9.cell? ⟨w5.heap.size, 7, none⟩ = some (.int .i64 x.e.at_) ∧ w9.cell? ⟨w5.heap.size, 8, none⟩ = some (.int .i64 x.e.til) := ⟨kk, by show (w9).cell? _ = _; rw [cell_of_row _ _ 0 _ _ _ hX9]; rfl, by show (w9).cell? _ = _; rw [cell_of_row _ _ 1 _ _ _ hX9]; rfl, by show (w9).cell? _ = _; rw [cell_of_row _ _ 2 _ _ _ hX9]; rfl, by show (w9).cell? _ = _; rw [cell_of_row _ _ 3 _ _ _ hX9]; rfl, by show (w9).cell? _ = _; rw [cell_of_row _ _ 4 _ _ _ hX9]; rfl, by show (w9).cell? _ = _; rw [cell_of_row _ _ 5 _ _ _ hX9]; rfl, by show (w9).cell? _ = _; rw [cell_of_row _ _ 6 _ _ _ hX9]; rfl, by show (w9).cell? _ = _; rw [cell_of_row _ _ 7 _ _ _ hX9]; rfl, by show (w9).cell? _ = _; rw [cell_of_row _ _ 8 _ _ _ hX9]; rfl⟩
            clear hend hCe hFe hR9 hown hgrow hg9 hone hnews hP9 hX9 hat
            refine HK.out _ _ (fun _ => hS9) ?_
            clear HK K
            try simp only [Act.put]
            try simp only [List.setIfInBounds_toArray]
            try simp only [List.set_cons_succ]
            try simp only [List.set_cons_zero]
            refine wpDue_one (i := 12) (by kernel_rfl) rfl (fun K hK => ?_)
            have HK := Lib.hid hK
            clear hK
            go_simp
            refine HK.out _ _ (fun h => absurd h (by decide)) ?_
            clear HK K
            try simp only [Act.put]
            try simp only [List.setIfInBounds_toArray]
            try simp only [List.set_cons_succ]
            try simp only [List.set_cons_zero]
            refine wpDue_one (i := 13) (by kernel_rfl) rfl (fun K hK => ?_)
            have HK := Lib.hid hK
            clear hK
            go_simp
            refine HK.out _ _ (fun h => absurd h (by decide)) ?_
            clear HK K
            try simp only [Act.put]
            try simp only [List.setIfInBounds_toArray]
            try simp only [List.set_cons_succ]
            try simp only [List.set_cons_zero]
            refine wpDue_one (i := 14) (by kernel_rfl) rfl (fun K hK => ?_)
            have HK := Lib.hid hK
            clear hK
            go_simp
            refine HK.out _ _ (fun h => absurd h (by decide)) ?_
            clear HK K
            try simp only [Act.put]
            try simp only [List.setIfInBounds_toArray]
            try simp only [List.set_cons_succ]
            try simp only [List.set_cons_zero]
            refine wpDue_done (by kernel_rfl) ?_ _
            clear kk hf9 hS9
            go_wp2
            go_meet
            exact Hend.out
          · have HK := Lib.hid hK
            clear hK
            go_simp
            have hn7 : ((w6.alloc (.cells #[.string ⟨x.e.name.toArray⟩, .int .i64 x.e.kind, .int .i64 x.e.code, .slice x.ra x.e.recs.length x.rc, .slice x.sa 0 x.sc, .slice x.ga 0 x.gc, .int .i64 x.e.neg, .int .i64 x.e.at_, .int .i64 x.e.til] 75)).drew).heap[w6.heap.size]? = some (.cells (entV x).toArray 75 (0, 0)) := heap_alloc_new w6 _
            have hBn : Below w6.heap.size w6 (w6.alloc (.cells #[.string ⟨x.e.name.toArray⟩, .int .i64 x.e.kind, .int .i64 x.e.code, .slice x.ra x.e.recs.length x.rc, .slice x.sa 0 x.sc, .slice x.ga 0 x.gc, .int .i64 x.e.neg, .int .i64 x.e.at_, .int .i64 x.e.til] 75)).drew := ((Below.refl _ _).alloc (Nat.le_refl _) _).drew
            have hl7 : w6.heap.size < ((w6.alloc (.cells #[.string ⟨x.e.name.toArray⟩, .int .i64 x.e.kind, .int .i64 x.e.code, .slice x.ra x.e.recs.length x.rc, .slice x.sa 0 x.sc, .slice x.ga 0 x.gc, .int .i64 x.e.neg, .int .i64 x.e.at_, .int .i64 x.e.til] 75)).drew).heap.size := by simp
            generalize (w6.alloc (.cells #[.string ⟨x.e.name.toArray⟩, .int .i64 x.e.kind, .int .i64 x.e.code, .slice x.ra x.e.recs.length x.rc, .slice x.sa 0 x.sc, .slice x.ga 0 x.gc, .int .i64 x.e.neg, .int .i64 x.e.at_, .int .i64 x.e.til] 75)).drew = w7 at *
            have HN7 := Lib.hid hn7
            have HP7 := Lib.hid ((hBn.block pb HC7.out.lt).trans HC7.out.blk)
            have HX7 := Lib.hid ((hBn.block _ hxl6).trans Xb.out)
            have kk7 : w7.cell? ⟨pb, 2, none⟩ = some (.slice (some ⟨g, 0, none⟩) xs1.length cp1) := by rw [cell_of_row w7 _ 2 _ _ _ HP7.out]; rfl
            have hS7 : w7.cell? ⟨pb, 2, none⟩ = some (.slice (some ⟨g, 0, none⟩) xs1.length cp1) ∧ w7.cell? ⟨w5.heap.size, 0, none⟩ = some (.string ⟨x.e.name.toArray⟩) ∧ w7.cell? ⟨w5.heap.size, 1, none⟩ = some (.int .i64 x.e.kind) ∧ w7.cell? ⟨w5.heap.size, 2, none⟩ = some (.int .i64 x.e.code) ∧ w7.cell? ⟨w5.heap.size, 3, none⟩ = some (.slice x.ra x.e.recs.length x.rc) ∧ w7.cell? ⟨w5.heap.size, 4, none⟩ = some (.slice x.sa 0 x.sc) ∧ w7.cell? ⟨w5.heap.size, 5, none⟩ = some (.slice x.ga 0 x.gc) ∧ w7.cell? ⟨w5.heap.size, 6, none⟩ = some (.int .i64 x.e.neg) ∧ w7.cell? ⟨w5.heap.size, 7, none⟩ = some (.int .i64 x.e.at_) ∧ w7.cell? ⟨w5.heap.size, 8, none⟩ = some (.int .i64 x.e.til) := ⟨kk7, by show (w7).cell? _ = _; rw [cell_of_row _ _ 0 _ _ _ HX7.out]; rfl, by show (w7).cell? _ = _; rw [cell_of_row _ _ 1 _ _ _ HX7.out]; rfl, by show (w7).cell? _ = _; rw [cell_of_row _ _ 2 _ _ _ HX7.out]; rfl, by show (w7).cell? _ = _; rw [cell_of_row _ _ 3 _ _ _ HX7.out]; rfl, by show (w7).cell? _ = _; rw [cell_of_row _ _ 4 _ _ _ HX7.out]; rfl, by show (w7).cell? _ = _; rw [cell_of_row _ _ 5 _ _ _ HX7.out]; rfl, by show (w7).cell? _ = _; rw [cell_of_row _ _ 6 _ _ _ HX7.out]; rfl, by show (w7).cell? _ = _; rw [cell_of_row _ _ 7 _ _ _ HX7.out]; rfl, by show (w7).cell? _ = _; rw [cell_of_row _ _ 8 _ _ _ HX7.out]; rfl⟩
            have HBn := Lib.hid hBn
            clear hn7 hBn kk7
            refine HK.out _ _ (fun _ => hS7) ?_
            clear HK K
            try simp only [Act.put]
            try simp only [List.setIfInBounds_toArray]
            try simp only [List.set_cons_succ]
            try simp only [List.set_cons_zero]
            refine wpDue_one (i := 8) (by kernel_rfl) rfl (fun K hK => ?_)
            have HK := Lib.hid hK
            clear hK
            go_simp
            refine (HD.out _ HBn.out).mono ?_
            rintro e w8 ⟨v', rfl, hr, hv, hg⟩
            obtain ⟨a8, cp8, rfl, hc8, hm8, _⟩ := hr.val
            have hg8 : w6.grownBy w8 (Value.slice (some ⟨g, 0, none⟩) xs1.length cp1).ownBlock := (grown_of_below HBn.out).trans hg
            have Hv8 := Lib.hid (show (Value.slice a8 (xs1.eraseIdx k).length cp8).ownBlock = (Value.slice (some ⟨g, 0, none⟩) xs1.length cp1).ownBlock from hv.elim (fun h => by rw [h]) id)
            have HP8 := Lib.hid ((hg8.block pb HC7.out.lt (Ne.symm HC7.out.vne)).trans HC7.out.blk)
            have HX8 := Lib.hid ((hg8.block _ hxl6 hxg).trans Xb.out)
            have hng : some w6.heap.size ≠ (Value.slice (some ⟨g, 0, none⟩) xs1.length cp1).ownBlock := by
              intro e
              have : w6.heap.size = g := by simpa [Value.ownBlock] using e
              obtain ⟨_, hl, _⟩ := HC7.out.row.block g rfl
              omega
            have HN := Lib.hid ((hg.block _ hl7 hng).trans HN7.out)
            have hB8 : B ≤ w8.heap.size := Nat.le_trans HC7.out.bs hg8.size
            have kk8 : w8.cell? ⟨pb, 2, none⟩ = some (.slice (some ⟨g, 0, none⟩) xs1.length cp1) := by rw [cell_of_row w8 _ 2 _ _ _ HP8.out]; rfl
            have hS8 : w8.cell? ⟨pb, 2, none⟩ = some (.slice (some ⟨g, 0, none⟩) xs1.length cp1) ∧ w8.cell? ⟨w5.heap.size, 0, none⟩ = some (.string ⟨x.e.name.toArray⟩) ∧ w8.cell? ⟨w5.heap.size, 1, none⟩ = some (.int .i64 x.e.kind) ∧ w8.cell? ⟨w5.heap.size, 2, none⟩ = some (.int .i64 x.e.code) ∧ w8.cell? ⟨w5.heap.size, 3, none⟩ = some (.slice x.ra x.e.recs.length x.rc) ∧ w8.cell? ⟨w5.heap.size, 4, none⟩ = some (.slice x.sa 0 x.sc) ∧ w8.cell? ⟨w5.heap.size, 5, none⟩ = some (.slice x.ga 0 x.gc) ∧ w8.cell? ⟨w5.heap.size, 6, none⟩ = some (.int .i64 x.e.neg) ∧ w8.cell? ⟨w5.heap.size, 7, none⟩ = some (.int .i64 x.e.at_) ∧ w8.cell? ⟨w5.heap.size, 8, none⟩ = some (.int .i64 x.e.til) := ⟨kk8, by show (w8).cell? _ = _; rw [cell_of_row _ _ 0 _ _ _ HX8.out]; rfl, by show (w8).cell? _ = _; rw [cell_of_row _ _ 1 _ _ _ HX8.out]; rfl, by show (w8).cell? _ = _; rw [cell_of_row _ _ 2 _ _ _ HX8.out]; rfl, by show (w8).cell? _ = _; rw [cell_of_row _ _ 3 _ _ _ HX8.out]; rfl, by show (w8).cell? _ = _; rw [cell_of_row _ _ 4 _ _ _ HX8.out]; rfl, by show (w8).cell? _ = _; rw [cell_of_row _ _ 5 _ _ _ HX8.out]; rfl, by show (w8).cell? _ = _; rw [cell_of_row _ _ 6 _ _ _ HX8.out]; rfl, by show (w8).cell? _ = _; rw [cell_of_row _ _ 7 _ _ _ HX8.out]; rfl, by show (w8).cell? _ = _; rw [cell_of_row _ _ 8 _ _ _ HX8.out]; rfl⟩
            have HR8 := Lib.hid hr
            have Hg8 := Lib.hid hg8
            clear hr hv hg hg8 hng kk8 hS7
            refine HK.out _ _ (fun _ => hS8) ?_
            clear HK K
            try simp only [Act.put]
            try simp only [List.setIfInBounds_toArray]
            try simp only [List.set_cons_succ]
            try simp only [List.set_cons_zero]
            refine wpDue_one (i := 11) (by kernel_rfl) rfl (fun K hK => ?_)
            have HK := Lib.hid hK
            clear hK
            have hone : ∀ u ∈ entV x, u.oneCell' = true := by
              intro u hu; simp only [entV, List.mem_cons, List.not_mem_nil, or_false] at hu
              rcases hu with rfl | rfl | rfl | rfl | rfl | rfl | rfl | rfl | rfl <;> rfl
            have hnews : ∀ j u, (entV x)[j]? = some u → w8.cell? ((⟨w6.heap.size, 0, none⟩ : Addr).add j) = some u := World.news_of_block (cs := (entV x).toArray) (t := 75) (fr := (0, 0)) HN.out
            refine step_append_lies w8 (by rfl) (.tmp 64) (.tmp 66) 72 (by rfl) B 75 i0 _ 9 128 Tryd.underlying72 hi0 hz0 hz1 hz2 (by rfl) (by decide) (.slice a8 (xs1.eraseIdx k).length cp8) (xs1.eraseIdx k).length ((xs1.eraseIdx k).flatMap entV) (by rfl) HR8.out ⟨w6.heap.size, 0, none⟩ 1 1 (entV x) (by rfl) (by rfl) hnews hone (by decide) (by unfold maxLen; omega) (by omega) hB8 _ rfl ?_
            intro g9 cap w9 hown hgrow hat hlt
            rw [Hv8.out] at hgrow
            have hg9 := Hg8.out.trans hgrow
            have hR9 : RowE B w9 (.slice (some ⟨g9, 0, none⟩) ((xs1.eraseIdx k).length + 1) cap) (xs1.eraseIdx k ++ [x]) := by
              unfold RowE
              rw [List.length_append, List.flatMap_append, List.flatMap_cons, List.flatMap_nil, List.append_nil]
              exact hown
            obtain ⟨hCe, hFe⟩ := HC7.out.addRow hR9 hg9 Hge.out Hok.out
            have hP9 := (hg9.block pb HC7.out.lt (Ne.symm HC7.out.vne)).trans HC7.out.blk
            have hX9 := (hg9.block _ hxl6 hxg).trans Xb.out
            have hend : GetMid B pb c.room now (Cb.getE es1 k) x w5.heap.size w6 (w9.setCell ⟨pb, 2, none⟩ (.slice (some ⟨g9, 0, none⟩) ((xs1.eraseIdx k).length + 1) cap)) :=
              ⟨⟨xs1.eraseIdx k ++ [x], .slice (some ⟨g9, 0, none⟩) ((xs1.eraseIdx k).length + 1) cap, hCe, by simp⟩, hFe, (Below.heap_setCell _ _ _ _ (Ne.symm hpx)).trans hX9⟩
            have Hend := Lib.hid hend
            have hf9 : w9.frozen? ⟨pb, 2, none⟩ = false := frozen_of_row w9 pb 2 _ _ hP9
            have kk : w9.cell? ⟨pb, 2, none⟩ = some (.slice (some ⟨g, 0, none⟩) xs1.length cp1) := by rw [cell_of_row w9 _ 2 _ _ _ hP9]; rfl
            have hS9 : w9.cell? ⟨pb, 2, none⟩ = some (.slice (some ⟨g, 0, none⟩) xs1.length cp1) ∧ w9.cell? ⟨w5.heap.size, 0, none⟩ = some (.string ⟨x.e.name.toArray⟩) ∧ w9.cell? ⟨w5.heap.size, 1, none⟩ = some (.int .i64 x.e.kind) ∧ w9.cell? ⟨w5.heap.size, 2, none⟩ = some (.int .i64 x.e.code) ∧ w9.cell? ⟨w5.heap.size, 3, none⟩ = some (.slice x.ra x.e.recs.length x.rc) ∧ w9.cell? ⟨w5.heap.size, 4, none⟩ = some (.slice x.sa 0 x.sc) ∧ w9.cell? ⟨w5.heap.size, 5, none⟩ = some (.slice x.ga 0 x.gc) ∧ w9.cell? ⟨w5.heap.size, 6, none⟩ = some (.int .i64 x.e.neg) ∧ w9.cell? ⟨w5.heap.size, 7, none⟩ = some (.int .i64 x.e.at_) ∧ w9.cell? ⟨w5.heap.size, 8, none⟩ = some (.int .i64 x.e.til) := ⟨kk, by show (w9).cell? _ = _; rw [cell_of_row _ _ 0 _ _ _ hX9]; rfl, by show (w9).cell? _ = _; rw [cell_of_row _ _ 1 _ _ _ hX9]; rfl, by show (w9).cell? _ = _; rw [cell_of_row _ _ 2 _ _ _ hX9]; rfl, by show (w9).cell? _ = _; rw [cell_of_row _ _ 3 _ _ _ hX9]; rfl, by show (w9).cell? _ = _; rw [cell_of_row _ _ 4 _ _ _ hX9]; rfl, by show (w9).cell? _ = _; rw [cell_of_row _ _ 5 _ _ _ hX9]; rfl, by show (w9).cell? _ = _; rw [cell_of_row _ _ 6 _ _ _ hX9]; rfl, by show (w9).cell? _ = _; rw [cell_of_row _ _ 7 _ _ _ hX9]; rfl, by show (w9).cell? _ = _; rw [cell_of_row _ _ 8 _ _ _ hX9]; rfl⟩
            clear hend hCe hFe hR9 hown hgrow hg9 hone hnews hP9 hX9 hat
            refine HK.out _ _ (fun _ => hS9) ?_
            clear HK K
            try simp only [Act.put]
            try simp only [List.setIfInBounds_toArray]
            try simp only [List.set_cons_succ]
            try simp only [List.set_cons_zero]
            refine wpDue_one (i := 12) (by kernel_rfl) rfl (fun K hK => ?_)
            have HK := Lib.hid hK
            clear hK
            go_simp
            refine HK.out _ _ (fun h => absurd h (by decide)) ?_
            clear HK K
            try simp only [Act.put]
            try simp only [List.setIfInBounds_toArray]
            try simp only [List.set_cons_succ]
            try simp only [List.set_cons_zero]
            refine wpDue_one (i := 13) (by kernel_rfl) rfl (fun K hK => ?_)
            have HK := Lib.hid hK
            clear hK
            go_simp
            refine HK.out _ _ (fun h => absurd h (by decide)) ?_
            clear HK K
            try simp only [Act.put]
            try simp only [List.setIfInBounds_toArray]
            try simp only [List.set_cons_succ]
            try simp only [List.set_cons_zero]
            refine wpDue_one (i := 14) (by kernel_rfl) rfl (fun K hK => ?_)
            have HK := Lib.hid hK
            clear hK
            go_simp
            refine HK.out _ _ (fun h => absurd h (by decide)) ?_
            clear HK K
            try simp only [Act.put]
            try simp only [List.setIfInBounds_toArray]
            try simp only [List.set_cons_succ]
            try simp only [List.set_cons_zero]
            refine wpDue_done (by kernel_rfl) ?_ _
            clear kk hf9 hS9
            go_wp2
            go_meet
            exact Hend.out
        case rest =>
          obtain ⟨⟨xs2, v2, hC9, hx9⟩, hF9, hX9⟩ := hcut
          have hok := hC9.ok x hx9
          have hgood := HIL.out.good x.e (List.mem_of_getElem? Hxe.out)
          have hfew := hgood.few
          have hRP : ROk B wc ⟨⟨x.e.code, x.e.recs, 0, 0, x.e.neg⟩, x.ra, x.rc, x.sa, x.sc, x.ga, x.gc⟩ := ⟨hok.r, ⟨Nat.zero_le _, (recs_cap hok.s).2.2⟩, ⟨Nat.zero_le _, (recs_cap hok.g).2.2⟩⟩
          have hCL := cloneReply_any B ⟨⟨x.e.code, x.e.recs, 0, 0, x.e.neg⟩, x.ra, x.rc, x.sa, x.sc, x.ga, x.gc⟩ wc hRP rfl rfl (Nat.le_trans hfew (by decide)) hok.s hok.g
          have hcx := fun j => cell_of_row wc w5.heap.size j _ _ _ hX9
          have HC9 := Lib.hid hC9
          have HX9 := Lib.hid hX9
          have HF9 := Lib.hid hF9
          have Hgood := Lib.hid hgood
          have HCL := Lib.hid hCL
          have hxw : w5.heap.size < wc.heap.size := (Array.getElem?_eq_some_iff.1 hX9).1
          have kk9 := hC9.c2
          simp only [entV] at hcx
          clear hC9 hx9 hF9 hX9 hok hgood hRP hCL kk
          go_wp2_with fail
          refine HCL.out.mono ?_
          rintro e w10 ⟨ra', rc', sa', sc', ga', gc', rfl, hR, hS, hG, hb⟩
          dsimp only at hR hS hG ⊢
          have HX10 := Lib.hid ((hb.block _ hxw).trans HX9.out)
          have HC10 := Lib.hid (HC9.out.later hb)
          have HR10 := Lib.hid hR
          have HS10 := Lib.hid hS
          have HG10 := Lib.hid hG
          have Hb10 := Lib.hid hb
          have hw10 : wc.heap.size ≤ w10.heap.size := hb.size
          clear hR hS hG hb hcx kk9
          go_wp2
          have hrb := heap_alloc_new w10 (.cells #[.int .i64 x.e.code, .slice ra' x.e.recs.length rc', .slice sa' 0 sc', .slice ga' 0 gc', .int .i64 x.e.neg] 31)
          have hBr : Below w10.heap.size w10 (w10.alloc (.cells #[.int .i64 x.e.code, .slice ra' x.e.recs.length rc', .slice sa' 0 sc', .slice ga' 0 gc', .int .i64 x.e.neg] 31)) := (Below.refl _ _).alloc (Nat.le_refl _) _
          have hs11 : w10.heap.size < (w10.alloc (.cells #[.int .i64 x.e.code, .slice ra' x.e.recs.length rc', .slice sa' 0 sc', .slice ga' 0 gc', .int .i64 x.e.neg] 31)).heap.size := by simp
          generalize (w10.alloc (.cells #[.int .i64 x.e.code, .slice ra' x.e.recs.length rc', .slice sa' 0 sc', .slice ga' 0 gc', .int .i64 x.e.neg] 31)) = w11 at *
          have HX11 := Lib.hid ((hBr.block _ (Nat.lt_of_lt_of_le hxw hw10)).trans HX10.out)
          have HC11 := Lib.hid (HC10.out.later hBr)
          have HR11 := Lib.hid (HR10.out.later hBr)
          have HS11 := Lib.hid (HS10.out.later hBr)
          have HG11 := Lib.hid (HG10.out.later hBr)
          have HRB := Lib.hid hrb
          have HBr := Lib.hid hBr
          have hsub : IntKind.i64.wrap (now - x.e.at_) = now - x.e.at_ := IntWalk.i64_in _ (by have h1 := Hgood.out.at0; have h2 : x.e.at_ ≤ now := Hgood.out.at1; omega)
          have Hsub := Lib.hid hsub
          have hnl : x.e.recs.length ≤ 60 := hfew
          clear hrb hBr hsub
          obtain ⟨wo, rfl⟩ : ∃ wo : World, wo = wr := ⟨_, rfl⟩
          go_loopw [76] (fun i wq => ∃ t : Nat, t ≤ x.e.recs.length ∧ i = .int .i64 t ∧ Hid (RowR wc.heap.size wq (.slice ra' x.e.recs.length rc') (mixT (now - x.e.at_) x.e.recs t)) ∧ Hid (w11.grownBy wq (Value.slice ra' x.e.recs.length rc').ownBlock)) (fun i _ => x.e.recs.length - (intOf i).toNat)
          case atStart => exact ⟨0, Nat.zero_le _, rfl, HR11.out, World.grownBy.refl _ _⟩
          case round =>
            obtain ⟨t, ht, rfl, HRt, Hgt⟩ := hrel
            by_cases htl : t < x.e.recs.length
            · obtain ⟨r, hr⟩ : ∃ r, x.e.recs[t]? = some r := ⟨x.e.recs[t], List.getElem?_eq_getElem htl⟩
              obtain ⟨g2, cap2, hv2, hbg2, hgl2⟩ := World.ownsRow.form HRt.out (by rw [mixT_len]; omega)
              obtain ⟨rfl, rfl⟩ : ra' = some ⟨g2, 0, none⟩ ∧ cap2 = rc' := by
                injection hv2 with e1 e2 e3
                exact ⟨e1, e3.symm⟩
              have hg2 := (HR10.out.own g2 rfl).2
              have k1 : wr.cell? ⟨w10.heap.size, 1, none⟩ = some (.slice (some ⟨g2, 0, none⟩) x.e.recs.length cap2) := by
                rw [cell_of_row wr _ 1 _ _ _ ((Hgt.out.block _ hs11 (by simp [Value.ownBlock]; omega)).trans HRB.out)]; rfl
              have k3 : wr.cell? ⟨w5.heap.size, 7, none⟩ = some (.int .i64 x.e.at_) := by
                rw [cell_of_row wr _ 7 _ _ _ ((Hgt.out.block _ (by have := HBr.out.size; omega) (by simp [Value.ownBlock]; omega)).trans HX11.out)]; rfl
              have k4 : wr.cell? ⟨g2, t * 4 + 2, none⟩ = some (.int .i64 r.ttl) := by
                have := World.ownsRow.cells HRt.out (g := g2) rfl (t * 4 + 2) _ (flat_at recV 4 recV_len _ t r (mixT_at _ hr) 2 _ rfl)
                rw [add_at, Nat.zero_add] at this
                exact this
              have kf : wr.frozen? ⟨g2, t * 4 + 2, none⟩ = false := by
                obtain ⟨cur, _, _, hcur, _⟩ := HRt.out.form
                exact frozen_of_row wr g2 _ _ _ hcur
              have hrt := Hgood.out.ttl r (List.mem_of_getElem? hr)
              have h1 := Hgood.out.at0
              have h2 : x.e.at_ ≤ now := Hgood.out.at1
              have hs1 := Hsub.out
              have hs2 : IntKind.i64.wrap (r.ttl - (now - x.e.at_)) = r.ttl - (now - x.e.at_) := IntWalk.i64_in _ (by omega)
              have hi0 : (0 : Int) ≤ (t : Int) := by omega
              have hi1 : (t : Int) < (x.e.recs.length : Int) := by omega
              have HRn : Hid (RowR wc.heap.size (wr.setCell ⟨g2, t * 4 + 2, none⟩ (.int .i64 (r.ttl - (now - x.e.at_)))).drew (.slice (some ⟨g2, 0, none⟩) x.e.recs.length cap2) (mixT (now - x.e.at_) x.e.recs (t + 1))) := by
                have h3 := HRt.out.setTtl (mixT_at (now - x.e.at_) hr) (r.ttl - (now - x.e.at_))
                rw [mixT_next (now - x.e.at_) hr] at h3
                exact h3.later ((Below.refl _ _).drew)
              have HGn : Hid (w11.grownBy (wr.setCell ⟨g2, t * 4 + 2, none⟩ (.int .i64 (r.ttl - (now - x.e.at_)))).drew (Value.slice (some ⟨g2, 0, none⟩) x.e.recs.length cap2).ownBlock) :=
                (Hgt.out.trans (grown_setCell g2 _ _)).trans (grown_of_below ((Below.refl _ _).drew))
              clear hr hv2
              go_upto_region 16 with fail
              have hS1 : (fun W => W.cell? ⟨w10.heap.size, 1, none⟩ = some (.slice (some ⟨g2, 0, none⟩) x.e.recs.length cap2) ∧ W.cell? ⟨g2, t * 4 + 2, none⟩ = some (.int .i64 r.ttl) ∧ W.cell? ⟨w5.heap.size, 7, none⟩ = some (.int .i64 x.e.at_)) wr.drew := ⟨k1, k4, k3⟩
              refine wp_region_due [0, 1, 2, 3, 4, 5, 6, 7, 8, 9, 10] (fun W => W.cell? ⟨w10.heap.size, 1, none⟩ = some (.slice (some ⟨g2, 0, none⟩) x.e.recs.length cap2) ∧ W.cell? ⟨g2, t * 4 + 2, none⟩ = some (.int .i64 r.ttl) ∧ W.cell? ⟨w5.heap.size, 7, none⟩ = some (.int .i64 x.e.at_)) (by kernel_rfl) ?_
              refine wpDue_take (i := 0) (v := ?_) rfl (by kernel_rfl) (by kernel_rfl) (by kernel_rfl) (by kernel_rfl) (fun _ _ _ h => h) hS1 (.inl ⟨by rfl, ?_⟩) ?_
              rotate_left
              · intro W hW; (try dsimp only at hW); go_simp; try with_reducible rfl
              try simp only [Act.put]
              try simp only [List.setIfInBounds_toArray]
              try simp only [List.set_cons_succ]
              try simp only [List.set_cons_zero]
              refine wpDue_take (i := 1) (v := ?_) rfl (by kernel_rfl) (by kernel_rfl) (by kernel_rfl) (by kernel_rfl) (fun _ _ _ h => h) hS1 (.inl ⟨by rfl, ?_⟩) ?_
              rotate_left
              · intro W hW; (try dsimp only at hW); go_simp; try with_reducible rfl
              try simp only [Act.put]
              try simp only [List.setIfInBounds_toArray]
              try simp only [List.set_cons_succ]
              try simp only [List.set_cons_zero]
              refine wpDue_take (i := 2) (v := ?_) rfl (by kernel_rfl) (by kernel_rfl) (by kernel_rfl) (by kernel_rfl) (fun _ _ _ h => h) hS1 (.inl ⟨by rfl, ?_⟩) ?_
              rotate_left
              · intro W hW; (try dsimp only at hW); go_simp; try with_reducible rfl
              try simp only [Act.put]
              try simp only [List.setIfInBounds_toArray]
              try simp only [List.set_cons_succ]
              try simp only [List.set_cons_zero]
              refine wpDue_take (i := 3) (v := ?_) rfl (by kernel_rfl) (by kernel_rfl) (by kernel_rfl) (by kernel_rfl) (fun _ _ _ h => h) hS1 (.inl ⟨by rfl, ?_⟩) ?_
              rotate_left
              · intro W hW; (try dsimp only at hW); go_simp; try with_reducible rfl
              try simp only [Act.put]
              try simp only [List.setIfInBounds_toArray]
              try simp only [List.set_cons_succ]
              try simp only [List.set_cons_zero]
              refine wpDue_take (i := 4) (v := ?_) rfl (by kernel_rfl) (by kernel_rfl) (by kernel_rfl) (by kernel_rfl) (fun _ _ _ h => h) hS1 (.inl ⟨by rfl, ?_⟩) ?_
              rotate_left
              · intro W hW; (try dsimp only at hW); go_simp; try with_reducible rfl
              try simp only [Act.put]
              try simp only [List.setIfInBounds_toArray]
              try simp only [List.set_cons_succ]
              try simp only [List.set_cons_zero]
              refine wpDue_take (i := 5) (v := ?_) rfl (by kernel_rfl) (by kernel_rfl) (by kernel_rfl) (by kernel_rfl) (fun _ _ _ h => h) hS1 (.inl ⟨by rfl, ?_⟩) ?_
              rotate_left
              · intro W hW; (try dsimp only at hW); go_simp; try with_reducible rfl
              try simp only [Act.put]
              try simp only [List.setIfInBounds_toArray]
              try simp only [List.set_cons_succ]
              try simp only [List.set_cons_zero]
              refine wpDue_take (i := 6) (v := ?_) rfl (by kernel_rfl) (by kernel_rfl) (by kernel_rfl) (by kernel_rfl) (fun _ _ _ h => h) hS1 (.inl ⟨by rfl, ?_⟩) ?_
              rotate_left
              · intro W hW; (try dsimp only at hW); go_simp; try with_reducible rfl
              try simp only [Act.put]
              try simp only [List.setIfInBounds_toArray]
              try simp only [List.set_cons_succ]
              try simp only [List.set_cons_zero]
              refine wpDue_take (i := 7) (v := ?_) rfl (by kernel_rfl) (by kernel_rfl) (by kernel_rfl) (by kernel_rfl) (fun _ _ _ h => h) hS1 (.inl ⟨by rfl, ?_⟩) ?_
              rotate_left
              · intro W hW; (try dsimp only at hW); go_simp; try with_reducible rfl
              try simp only [Act.put]
              try simp only [List.setIfInBounds_toArray]
              try simp only [List.set_cons_succ]
              try simp only [List.set_cons_zero]
              refine wpDue_take (i := 8) (v := ?_) rfl (by kernel_rfl) (by kernel_rfl) (by kernel_rfl) (by kernel_rfl) (fun _ _ _ h => h) hS1 (.inl ⟨by rfl, ?_⟩) ?_
              rotate_left
              · intro W hW; (try dsimp only at hW); go_simp; try with_reducible rfl
              try simp only [Act.put]
              try simp only [List.setIfInBounds_toArray]
              try simp only [List.set_cons_succ]
              try simp only [List.set_cons_zero]
              refine wpDue_take (i := 9) (v := ?_) rfl (by kernel_rfl) (by kernel_rfl) (by kernel_rfl) (by kernel_rfl) (fun _ _ _ h => h) hS1 (.inl ⟨by rfl, ?_⟩) ?_
              rotate_left
              · intro W hW; (try dsimp only at hW); go_simp; try with_reducible rfl
              try simp only [Act.put]
              try simp only [List.setIfInBounds_toArray]
              try simp only [List.set_cons_succ]
              try simp only [List.set_cons_zero]
              refine wpDue_take (i := 10) (v := ?_) rfl (by kernel_rfl) (by kernel_rfl) (by kernel_rfl) (by kernel_rfl) (fun _ _ _ h => h) hS1 (.inl ⟨by rfl, ?_⟩) ?_
              rotate_left
              · intro W hW; (try dsimp only at hW); go_simp; try with_reducible rfl
              try simp only [Act.put]
              try simp only [List.setIfInBounds_toArray]
              try simp only [List.set_cons_succ]
              try simp only [List.set_cons_zero]
              refine wpDue_one (i := 11) (by kernel_rfl) rfl (fun K hK => ?_)
              have HK := Lib.hid hK
              clear hK
              go_simp
              refine HK.out _ _ (fun h => absurd h (by decide)) ?_
              clear HK K
              try simp only [Act.put]
              try simp only [List.setIfInBounds_toArray]
              try simp only [List.set_cons_succ]
              try simp only [List.set_cons_zero]
              refine wpDue_one (i := 12) (by kernel_rfl) rfl (fun K hK => ?_)
              have HK := Lib.hid hK
              clear hK
              go_simp
              refine HK.out _ _ (fun h => absurd h (by decide)) ?_
              clear HK K
              try simp only [Act.put]
              try simp only [List.setIfInBounds_toArray]
              try simp only [List.set_cons_succ]
              try simp only [List.set_cons_zero]
              refine wpDue_one (i := 13) (by kernel_rfl) rfl (fun K hK => ?_)
              have HK := Lib.hid hK
              clear hK
              go_simp
              refine HK.out _ _ (fun h => absurd h (by decide)) ?_
              clear HK K
              try simp only [Act.put]
              try simp only [List.setIfInBounds_toArray]
              try simp only [List.set_cons_succ]
              try simp only [List.set_cons_zero]
              refine wpDue_done (by kernel_rfl) ?_ _
              clear hS1 hs1 hs2 k1 k3 k4 kf
              go_wp2
              refine ⟨⟨t + 1, by omega, by go_num, HRn, HGn⟩, by simp [intOf]; omega⟩
            · obtain rfl : t = x.e.recs.length := by omega
              have hrn := HRt.out
              rw [mixT_end] at hrn
              have hB11 : Below wc.heap.size wc w11 := Hb10.out.trans (HBr.out.mono hw10)
              have hBw : Below wc.heap.size wc wr := hB11.grown Hgt.out hB11.size (fun g hg => (HR10.out.own g hg).1)
              have hneR : some w10.heap.size ≠ (Value.slice ra' x.e.recs.length rc').ownBlock := fun e => absurd (HR10.out.own _ e.symm).2 (Nat.lt_irrefl _)
              have hneX : some w5.heap.size ≠ (Value.slice ra' x.e.recs.length rc').ownBlock := fun e => absurd (HR10.out.own _ e.symm).1 (by omega)
              have hRB := (Hgt.out.block _ hs11 hneR).trans HRB.out
              have hXB := (Hgt.out.block _ (Nat.lt_of_lt_of_le hxw hB11.size) hneX).trans HX11.out
              have hq3w : w.heap.size < w3.heap.size := (Array.getElem?_eq_some_iff.1 Rb3.out).1
              have hRq6 := (HB6.out.block _ hq3w).trans Rb3.out
              have hRqc := keptEnt HF9.out hRq6 hpne (by decide)
              have hqc : w.heap.size < wc.heap.size := (Array.getElem?_eq_some_iff.1 hRqc).1
              have hRq := (hBw.block _ hqc).trans hRqc
              have hFw : Fr B pb w wc := HF3.out.trans ((Fr.of_below HB6.out HC3.out.bs).trans HF9.out)
              have hgot : Cb.got c s.data.toList kind now = some (Cb.answer x.e now) := by rw [HGOT.out, Hspot.out, Option.bind_some, Hxe.out]; rfl
              have hget : Cb.get c s.data.toList kind now = ⟨c.room, now, Cb.getE es1 k⟩ := by rw [HGET.out, Hspot.out]; rfl
              have hEnd : ∀ (wz : World) (neg' : Int), neg' = (if x.e.recs = [] then x.e.neg - (now - x.e.at_) else x.e.neg) → Below wc.heap.size wc wz → wz.heap[w.heap.size]? = some (.cells #[.int .i64 0, .slice none 0 0, .slice none 0 0, .slice none 0 0, .int .i64 0] 31 (0, 0)) →
                  RowR wc.heap.size wz (.slice ra' x.e.recs.length rc') (x.e.recs.map (Cb.older (now - x.e.at_))) →
                  GetEnd B pb c s.data.toList kind now w (.returned (.tuple #[.agg #[.int .i64 x.e.code, .slice ra' x.e.recs.length rc', .slice sa' 0 sc', .slice ga' 0 gc', .int .i64 neg'], .bool true, .int .i64 0])) (((((wz.setCell ⟨w.heap.size, 0, none⟩ (.int .i64 x.e.code)).setCell ⟨w.heap.size, 1, none⟩ (.slice ra' x.e.recs.length rc')).setCell ⟨w.heap.size, 2, none⟩ (.slice sa' 0 sc')).setCell ⟨w.heap.size, 3, none⟩ (.slice ga' 0 gc')).setCell ⟨w.heap.size, 4, none⟩ (.int .i64 neg')) := by
                intro wz neg' hn hb hq hr
                obtain ⟨e1, e2, e3⟩ := five_all (w0 := w) (.int .i64 x.e.code) (.slice ra' x.e.recs.length rc') (.slice sa' 0 sc') (.slice ga' 0 gc') (.int .i64 neg') hq (by decide) (by decide) (HC9.out.later hb) (hFw.trans (Fr.of_below hb HC9.out.bs)) hpne H0.out.bs (Nat.le_refl _)
                have hl : (x.e.recs.map (Cb.older (now - x.e.at_))).length = x.e.recs.length := List.length_map _
                refine ⟨⟨⟨x.e.code, x.e.recs.map (Cb.older (now - x.e.at_)), 0, 0, neg'⟩, ra', rc', sa', sc', ga', gc'⟩, ?_, ?_, ?_, ?_, ?_, ⟨xs2, v2, ?_⟩, e2⟩
                · rw [hgot, Hk.out]
                  unfold rpV
                  rw [hl]; rfl
                · rw [hgot, hn]; rfl
                · dsimp only
                  rw [hl]
                  exact e3 _ _ (hr.recs (B' := B))
                · exact ⟨sa', sc', rfl, Nat.zero_le _, (recs_cap (HS10.out.recs (B' := B))).2.2, fun h => absurd rfl h⟩
                · exact ⟨ga', gc', rfl, Nat.zero_le _, (recs_cap (HG10.out.recs (B' := B))).2.2, fun h => absurd rfl h⟩
                · rw [hget]; exact e1
              have HEnd := Lib.hid hEnd
              have HRq := Lib.hid hRq
              have HBw := Lib.hid hBw
              have Hrn := Lib.hid hrn
              have HRBr := Lib.hid hRB
              have HXBr := Lib.hid hXB
              have hc5 := fun j => cell_of_row wr w10.heap.size j _ _ _ hRB
              have hc8 := fun j => cell_of_row wr w.heap.size j _ _ _ hRq
              have hf8 := fun j => frozen_of_row wr w.heap.size j _ _ hRq
              have hf5 := fun j => frozen_of_row wr w10.heap.size j _ _ hRB
              have hcx := fun j => cell_of_row wr w5.heap.size j _ _ _ hXB
              simp only [entV] at hcx
              have hqr : w.heap.size ≠ w10.heap.size := by omega
              have hrq : w10.heap.size ≠ w.heap.size := by omega
              clear hrn hB11 hBw hneR hneX hRB hXB hRq6 hRqc hRq hFw hgot hget hEnd
              by_cases hz : x.e.recs.length = 0
              · have hzb : ((x.e.recs.length : Int) == 0) = true := by rw [beq_iff_eq]; omega
                have hnil : x.e.recs = [] := List.eq_nil_of_length_eq_zero hz
                have hng := Hgood.out.neg hnil
                have h1 := Hgood.out.at0
                have h2 : x.e.at_ ≤ now := Hgood.out.at1
                have hs1 := Hsub.out
                have hs2 : IntKind.i64.wrap (x.e.neg - (now - x.e.at_)) = x.e.neg - (now - x.e.at_) := IntWalk.i64_in _ (by omega)
                have hend := HEnd.out (wr.setCell ⟨w10.heap.size, 4, none⟩ (.int .i64 (x.e.neg - (now - x.e.at_)))) (x.e.neg - (now - x.e.at_)) (by rw [if_pos hnil]) (HBw.out.setCell hw10 _) ((Below.heap_setCell _ _ _ _ hqr).trans HRq.out)
                  (World.ownsRow.kept Hrn.out (grown_setCell w10.heap.size 4 _) (.inr (fun e => absurd (HR10.out.own _ e).2 (Nat.lt_irrefl _))))
                have Hend := Lib.hid hend
                have HRq2 := Lib.hid (show (wr.setCell ⟨w10.heap.size, 4, none⟩ (.int .i64 (x.e.neg - (now - x.e.at_)))).heap[w.heap.size]? = _ from (Below.heap_setCell _ _ _ _ hqr).trans HRq.out)
                clear hz hnil hng h1 h2 hend
                go_wp2
                refine bodyPost_ret (results_cell_two rfl _ _ w.heap.size 31 _ (0, 0) _ rfl (five_stored HRq2.out) Tryd.underlying31 rfl (by kernel_rfl)) rfl ?_
                exact Hend.out
              · have hzb : ((x.e.recs.length : Int) == 0) = false := by rw [beq_eq_false_iff_ne]; omega
                have Hz := Lib.hid hz
                clear hz hcx
                go_wp2
                refine bodyPost_ret (results_cell_two rfl _ _ w.heap.size 31 _ (0, 0) _ rfl (five_stored HRq.out) Tryd.underlying31 rfl (by kernel_rfl)) rfl ?_
                exact HEnd.out wr _ (by rw [if_neg (by intro e; exact Hz.out (by rw [e]; rfl))]) HBw.out HRq.out Hrn.out
    · obtain rfl : j = 2 := by omega
      have hspot : Cb.spot es1 s.data.toList kind = none := by
        unfold Cb.spot
        have h0 := Hno.out 0 (by omega)
        have h1 := Hno.out 1 (by omega)
        rw [show kdAt kind 0 = 0 from rfl] at h0
        rw [show kdAt kind 1 = kind from rfl] at h1
        rw [h0]; exact h1
      have hgot : Cb.got c s.data.toList kind now = none := by rw [HGOT.out, hspot]; rfl
      have hget : Cb.get c s.data.toList kind now = ⟨c.room, now, es1⟩ := by rw [HGET.out, hspot]; rfl
      have hq3w : w.heap.size < w3.heap.size := (Array.getElem?_eq_some_iff.1 Rb3.out).1
      have hRq := (HB3.out.block _ hq3w).trans Rb3.out
      obtain ⟨e1, e2, e3⟩ := five_all (w0 := w) (.int .i64 0) (.slice none 0 0) (.slice none 0 0) (.slice none 0 0) (.int .i64 0) hRq (by decide) (by decide) (HC3.out.later HB3.out) (HF3.out.trans (Fr.of_below HB3.out HC3.out.bs)) hpne H0.out.bs (Nat.le_refl _)
      have hend : GetEnd B pb c s.data.toList kind now w (.returned (.tuple #[.agg #[.int .i64 0, .slice none 0 0, .slice none 0 0, .slice none 0 0, .int .i64 0], .bool false, .int .i64 0])) (((((wr.setCell ⟨w.heap.size, 0, none⟩ (.int .i64 0)).setCell ⟨w.heap.size, 1, none⟩ (.slice none 0 0)).setCell ⟨w.heap.size, 2, none⟩ (.slice none 0 0)).setCell ⟨w.heap.size, 3, none⟩ (.slice none 0 0)).setCell ⟨w.heap.size, 4, none⟩ (.int .i64 0)) := by
        refine ⟨noRP, by rw [hgot, Hk.out]; rfl, by rw [hgot]; rfl, recs_nil _ _, recs_nil _ _, recs_nil _ _, ⟨xs1, v1, ?_⟩, e2⟩
        rw [hget]; exact e1
      have Hend := Lib.hid hend
      have HRq := Lib.hid hRq
      have hc8 := fun j => cell_of_row wr w.heap.size j _ _ _ hRq
      have hf8 := fun j => frozen_of_row wr w.heap.size j _ _ hRq
      clear hend e1 e2 e3 hRq hspot hgot hget hqs hB3
      go_wp2
      refine bodyPost_ret (results_cell_two rfl _ _ w.heap.size 31 _ (0, 0) _ rfl (five_stored HRq.out) Tryd.underlying31 rfl (by kernel_rfl)) rfl ?_
      exact Hend.out
end
end Go.Proofs.YtajllcbjgndcpaaDoor
