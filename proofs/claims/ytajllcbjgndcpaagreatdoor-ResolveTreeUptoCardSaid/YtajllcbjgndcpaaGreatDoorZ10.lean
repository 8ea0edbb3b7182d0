/- WALKS: zone.Check. -/
import Derived.Test.YtajllcbjgndcpaaGreatDoorZ9
namespace Go.Proofs.YtajllcbjgndcpaaGreatDoor
open Go.RowKit Go.Maps

theorem zbelow_drewN {B : Nat} {a w : World} (h : Below B a w) (n : Nat) : Below B a (w.drewN n) := ⟨h.os, h.tape, h.output, h.size, h.block⟩
def prevR (l : List Cb.Rec) (k : Nat) : Option Cb.Rec := if k = 0 then none else l[k - 1]?
theorem scan_bad {o : Lb.Bs} {p : Option Cb.Rec} {n : Nat} {r : Cb.Rec} {l : List Cb.Rec} (h : Zn.recE o r ≠ 0) : Zn.scan o p n (r :: l) = (Zn.recE o r, n) := by
  show (if Zn.recE o r ≠ 0 then _ else _) = _
  rw [if_pos h]
theorem scan_there {o : Lb.Bs} {p : Option Cb.Rec} {n : Nat} {r : Cb.Rec} {l : List Cb.Rec} (h : Zn.recE o r = 0) (hb : Zn.behind r p = true) : Zn.scan o p n (r :: l) = (6, n) := by
  show (if Zn.recE o r ≠ 0 then _ else if Zn.behind r p = true then _ else _) = _
  rw [if_neg (by simp [h]), if_pos hb]
theorem scan_next {o : Lb.Bs} {p : Option Cb.Rec} {n : Nat} {r : Cb.Rec} {l : List Cb.Rec} (h : Zn.recE o r = 0) (hb : Zn.behind r p = false) : Zn.scan o p n (r :: l) = Zn.scan o (some r) (if r.kind = 5 then n + 1 else n) l := by
  show (if Zn.recE o r ≠ 0 then _ else if Zn.behind r p = true then _ else _) = _
  rw [if_neg (by simp [h]), if_neg (by simp [hb])]
theorem rec_drop {L : List Cb.Rec} {k : Nat} {x : Cb.Rec} (h : L[k]? = some x) : L.drop k = x :: L.drop (k + 1) := by
  obtain ⟨h1, rfl⟩ := List.getElem?_eq_some_iff.1 h
  exact List.drop_eq_getElem_cons h1
theorem all_next {α : Type} {p : α → Bool} {l : List α} {k : Nat} {x : α} (h : l[k]? = some x) : (l.take (k + 1)).all p = ((l.take k).all p && p x) := by
  rw [List.take_add_one, h, List.all_append]; simp
theorem all_bad {α : Type} {p : α → Bool} {l : List α} {k : Nat} {x : α} (h : l[k]? = some x) (hp : p x = false) : l.all p = false := by
  rw [List.all_eq_false]
  exact ⟨x, List.mem_of_getElem? h, by simp [hp]⟩
def ChkEnd (z : Zn.Zone) (w0 : World) (e : Ending) (w' : World) : Prop := e = .returned (.int .i64 (Zn.checkZ z)) ∧ Below w0.heap.size w0 w'
def ScanInv (o : Lb.Bs) (l : List Cb.Rec) (w0 : World) (k n : Nat) (wr : World) : Prop := Zn.scan o none 0 l = Zn.scan o (prevR l k) n (l.drop k) ∧ n ≤ k ∧ Below w0.heap.size w0 wr
def AllInv (z : Zn.Zone) (w0 : World) (k : Nat) (wr : World) : Prop := (z.recs.take k).all (Zn.agrees z) = true ∧ Below w0.heap.size w0 wr

section
variable (B : Nat) (o : Lb.Bs) (za : Option Addr) (zc : Nat) (l : List Cb.Rec) (w : World)
set_option maxHeartbeats 6400000 in
set_option maxRecDepth 100000 in
theorem zcheck_early (henv : EnvZ w) (h : Lb.check o ≠ 0 ∨ Lb.check o = 0 ∧ (Zn.star o = true ∨ Zn.star o = false ∧ 60 < l.length)) :
    Calls Tryz.prog 14 #[zoneV o za l.length zc] w (ChkEnd ⟨o, l⟩ w) := by
  unfold zoneV ChkEnd Zn.checkZ
  dsimp only
  have hBa : Below w.heap.size w (w.alloc (.cells #[.string ⟨o.toArray⟩, .slice za l.length zc] 24)) := (Below.refl _ w).alloc (Nat.le_refl _) _
  have hb1 := heap_alloc_new w (.cells #[.string ⟨o.toArray⟩, .slice za l.length zc] 24)
  have HC := Lib.hid (show Calls Tryz.prog 15 #[.string ⟨o.toArray⟩] _ fun e w' => e = .returned (.int .i64 (Lb.check o)) ∧ Below _ _ w' from check_any ⟨o.toArray⟩ _ (henv.later hBa).env)
  have HW := Lib.hid (fun W => (show Calls Tryz.prog 36 #[.string ⟨o.toArray⟩, .string ⟨#[42]⟩] W fun e w' => e = .returned (.bool (Zn.star o)) ∧ W = w' from star_any ⟨o.toArray⟩ W))
  obtain ⟨q, hq⟩ : ∃ q, Lb.check o = q := ⟨_, rfl⟩
  obtain ⟨st, hst⟩ : ∃ st, Zn.star o = st := ⟨_, rfl⟩
  rw [hq] at HC h ⊢
  rw [hst] at HW h ⊢
  have HBa := Lib.hid hBa
  have Hb1 := Lib.hid hb1
  clear hq hst hBa hb1
  rcases h with h | ⟨h, rfl | ⟨rfl, h6⟩⟩
  · rw [if_pos h]
    have hqb : (q == 0) = false := beq_eq_false_iff_ne.2 h
    have hqb2 : (q != 0) = true := by rw [bne, hqb]; rfl
    clear h
    go_enter Tryz.func14, Tryz.ntmps14
    go_wp2_with fail
    refine HC.out.mono ?_
    rintro e w1 ⟨rfl, hB⟩
    have hB1 := HBa.out.trans (hB.mono HBa.out.size)
    clear hB
    go_wp2
    go_ret
    exact ⟨rfl, hB1⟩
  · rw [if_neg (by simp [h]), if_pos rfl]
    have hqb : (q == 0) = true := by rw [beq_iff_eq]; exact h
    have hqb2 : (q != 0) = false := by rw [bne, hqb]; rfl
    clear h
    go_enter Tryz.func14, Tryz.ntmps14
    go_wp2_with fail
    refine HC.out.mono ?_
    rintro e w1 ⟨rfl, hB⟩
    have hB1 := HBa.out.trans (hB.mono HBa.out.size)
    have hc1 := fun j => cell_of_row w1 w.heap.size j _ _ _ ((hB.block _ (Array.getElem?_eq_some_iff.1 Hb1.out).1).trans Hb1.out)
    clear hB
    go_wp2_with fail
    refine (HW.out _).mono ?_
    rintro e w2 ⟨rfl, rfl⟩
    go_wp2
    go_ret
    exact ⟨rfl, hB1⟩
  · rw [if_neg (by simp [h]), if_neg (by decide), if_pos h6]
    have hqb : (q == 0) = true := by rw [beq_iff_eq]; exact h
    have hqb2 : (q != 0) = false := by rw [bne, hqb]; rfl
    have h6' : (60 : Int) < (l.length : Int) := by omega
    clear h h6
    go_enter Tryz.func14, Tryz.ntmps14
    go_wp2_with fail
    refine HC.out.mono ?_
    rintro e w1 ⟨rfl, hB⟩
    have hB1 := HBa.out.trans (hB.mono HBa.out.size)
    have hc1 := fun j => cell_of_row w1 w.heap.size j _ _ _ ((hB.block _ (Array.getElem?_eq_some_iff.1 Hb1.out).1).trans Hb1.out)
    clear hB
    go_wp2_with fail
    refine (HW.out _).mono ?_
    rintro e w2 ⟨rfl, rfl⟩
    go_wp2
    go_ret
    exact ⟨rfl, hB1⟩

set_option maxHeartbeats 6400000 in
set_option maxRecDepth 100000 in
theorem zcheck_scan (henv : EnvZ w) (hr : Recs B w (.slice za l.length zc) l) (hs : ∀ r ∈ l, r.data.length ≤ 1048576) (h1 : Lb.check o = 0) (h2 : Zn.star o = false) (h3 : l.length ≤ 60) :
    Calls Tryz.prog 14 #[zoneV o za l.length zc] w (ChkEnd ⟨o, l⟩ w) := by
  have hG : Zn.checkZ ⟨o, l⟩ = if (Zn.scan o none 0 l).1 ≠ 0 then (Zn.scan o none 0 l).1 else if (Zn.scan o none 0 l).2 ≠ 1 then 4 else if l.all (Zn.agrees ⟨o, l⟩) = false then 7 else 0 := by
    unfold Zn.checkZ
    rw [if_neg (by simp [h1]), if_neg (by simp [h2]), if_neg (by show ¬ l.length > 60; omega)]
  unfold zoneV ChkEnd
  have hBa : Below w.heap.size w (w.alloc (.cells #[.string ⟨o.toArray⟩, .slice za l.length zc] 24)) := (Below.refl _ w).alloc (Nat.le_refl _) _
  have hb1 := heap_alloc_new w (.cells #[.string ⟨o.toArray⟩, .slice za l.length zc] 24)
  have hC : Calls Tryz.prog 15 #[.string ⟨o.toArray⟩] (w.alloc (.cells #[.string ⟨o.toArray⟩, .slice za l.length zc] 24)) fun e w' => e = .returned (.int .i64 (Lb.check o)) ∧ Below _ _ w' := check_any ⟨o.toArray⟩ _ (henv.later hBa).env
  rw [h1] at hC
  have hW : ∀ W, Calls Tryz.prog 36 #[.string ⟨o.toArray⟩, .string ⟨#[42]⟩] W fun e w' => e = .returned (.bool (Zn.star o)) ∧ W = w' := fun W => star_any ⟨o.toArray⟩ W
  rw [h2] at hW
  have HC := Lib.hid hC
  have HW := Lib.hid hW
  have HBa := Lib.hid hBa
  have Hb1 := Lib.hid hb1
  have HG := Lib.hid hG
  have HR := Lib.hid hr
  have HS := Lib.hid hs
  have h3' : (l.length : Int) ≤ 60 := by omega
  clear hBa hb1 hG hC hW h1 h2 hr hs
  go_enter Tryz.func14, Tryz.ntmps14
  go_wp2_with fail
  refine HC.out.mono ?_
  rintro e w1 ⟨rfl, hB⟩
  have hB1 := HBa.out.trans (hB.mono HBa.out.size)
  have hx1 := (hB.block _ (Array.getElem?_eq_some_iff.1 Hb1.out).1).trans Hb1.out
  have hc1 := fun j => cell_of_row w1 w.heap.size j _ _ _ hx1
  have Hx1 := Lib.hid hx1
  have HB1 := Lib.hid hB1
  clear hB hx1 hB1 HC
  go_wp2_with fail
  refine (HW.out _).mono ?_
  rintro e w2 ⟨rfl, rfl⟩
  clear HW
  go_wp2
  go_loopw [4, 26] (fun nv kv wr => ∃ (k n : Nat), k ≤ l.length ∧ kv = .int .i64 k ∧ nv = .int .i64 (n : Int) ∧ Hid (ScanInv o l w1 k n wr)) (fun _ kv _ => l.length - (intOf kv).toNat)
  case atStart => exact ⟨0, 0, Nat.zero_le _, rfl, rfl, ⟨rfl, Nat.le_refl _, Below.refl _ _⟩⟩
  case round =>
    obtain ⟨k, n, hk, rfl, rfl, HI⟩ := hrel
    have hn := HI.out.2.1
    have hBw := HI.out.2.2
    have hx1 := (hBw.block _ (Array.getElem?_eq_some_iff.1 Hx1.out).1).trans Hx1.out
    have HBt := Lib.hid (HB1.out.trans (hBw.mono HB1.out.size))
    by_cases hlt : k < l.length
    · obtain ⟨x, hx⟩ : ∃ x, l[k]? = some x := ⟨l[k], List.getElem?_eq_getElem hlt⟩
      obtain ⟨b, p, rfl, hb, c0, c1, c2, c3⟩ := recs_at (HR.out.later HBt.out) hx
      have hi0 : (0 : Int) ≤ (k : Int) := by omega
      have hi1 : (k : Int) < (l.length : Int) := by omega
      have HX := Lib.hid hx
      have hBr := (hBw.alloc hBw.size (.cells #[.string ⟨x.name.toArray⟩, .int .i64 x.kind, .int .i64 x.ttl, .string ⟨x.data.toArray⟩] 43))
      have hbr := heap_alloc_new wr (.cells #[.string ⟨x.name.toArray⟩, .int .i64 x.kind, .int .i64 x.ttl, .string ⟨x.data.toArray⟩] 43)
      have HBr := Lib.hid hBr
      have HRC := Lib.hid (record_any o (some ⟨b, p, none⟩) l.length zc x (HS.out x (List.mem_of_getElem? hx)) _ (henv.later (HB1.out.trans (hBr.mono HB1.out.size))))
      unfold zoneV RecEnd recV at HRC
      have hne : w.heap.size < wr.heap.size := (Array.getElem?_eq_some_iff.1 hx1).1
      have hx1b := (Below.heap_alloc wr (.cells #[.string ⟨x.name.toArray⟩, .int .i64 x.kind, .int .i64 x.ttl, .string ⟨x.data.toArray⟩] 43) _ hne).trans hx1
      have hc1 := fun j => cell_of_row wr w.heap.size j _ _ _ hx1
      have Hx1b := Lib.hid hx1b
      have Hbr := Lib.hid hbr
      clear hx hBw hBr hbr hx1b
      obtain ⟨q, hq⟩ : ∃ q, Zn.recE o x = q := ⟨_, rfl⟩
      rw [hq] at HRC
      by_cases hq0 : q = 0
      · obtain rfl := hq0
        have hbb : ∃ bb, Zn.behind x (prevR l k) = bb := ⟨_, rfl⟩
        obtain ⟨bb, hbb⟩ := hbb
        have hs1 := HI.out.1
        rw [rec_drop HX.out] at hs1
        have HBB := Lib.hid hbb
        have HQ := Lib.hid hq
        have HS1 := Lib.hid hs1
        clear hq hs1 hbb
        obtain ⟨xn, xk, xt, xd⟩ := x
        dsimp only at *
        have hk5 : ((xk == 5) = true ∧ (if xk = 5 then n + 1 else n) = n + 1) ∨ ((xk == 5) = false ∧ (if xk = 5 then n + 1 else n) = n) := by
          by_cases e : xk = 5
          · exact .inl ⟨by rw [beq_iff_eq]; exact e, by rw [if_pos e]⟩
          · exact .inr ⟨beq_eq_false_iff_ne.2 e, by rw [if_neg e]⟩
        by_cases hk0 : k = 0
        · have hk0' : ¬ (k : Int) > 0 := by omega
          have hk0n : ¬ 0 < k := by omega
          have hbf : bb = false := by rw [← HBB.out]; subst hk0; rfl
          subst hbf
          have hs2 := HS1.out
          rw [scan_next HQ.out HBB.out] at hs2
          have hprev : some (⟨xn, xk, xt, xd⟩ : Cb.Rec) = prevR l (k + 1) := by unfold prevR; rw [if_neg (by omega)]; exact HX.out.symm
          rw [hprev] at hs2
          clear hprev HBB HS1 HQ hk0
          rcases hk5 with ⟨hk5, hn5⟩ | ⟨hk5, hn5⟩
          all_goals
            rw [hn5] at hs2
            have HS2 := Lib.hid hs2
            clear hs2 hn5
            go_wp2_with fail
            refine HRC.out.mono ?_
            rintro e w2 ⟨rfl, hB2⟩
            have HBe := Lib.hid (HBr.out.trans (hB2.mono HBr.out.size))
            have hx1 := (hB2.block _ (Array.getElem?_eq_some_iff.1 Hx1b.out).1).trans Hx1b.out
            have hc1 := fun j => cell_of_row w2 w.heap.size j _ _ _ hx1
            have hcr := fun j => cell_of_row w2 wr.heap.size j _ _ _ ((hB2.block _ (Array.getElem?_eq_some_iff.1 Hbr.out).1).trans Hbr.out)
            clear hB2 hx1
            go_upto_region 15 with fail
            go_quiet (fail)
            go_wp2
            refine ⟨⟨k + 1, _, by omega, by go_num, by go_num, ⟨HS2.out, by omega, zbelow_drewN HBe.out nq⟩⟩, by simp [intOf]; omega⟩
        · obtain ⟨j, hj⟩ : ∃ j, k = j + 1 := ⟨k - 1, by omega⟩
          have hk0' : (k : Int) > 0 := by omega
          have hk0n : 0 < k := by omega
          have hwj : IntKind.i64.wrap ((k : Int) - 1) = (j : Int) := (IntWalk.i64_in _ (by omega)).trans (by omega)
          have hj0 : (0 : Int) ≤ (j : Int) := by omega
          have hj1 : (j : Int) < (l.length : Int) := by omega
          obtain ⟨y, hy⟩ : ∃ y, l[j]? = some y := ⟨l[j], List.getElem?_eq_getElem (by omega)⟩
          have hprevk : prevR l k = some y := by unfold prevR; rw [if_neg hk0, ← hy]; congr 1; omega
          have hbo : bb = decide (0 ≤ Zn.ord y ⟨xn, xk, xt, xd⟩) := by rw [← HBB.out, hprevk]; rfl
          have Hbo := Lib.hid hbo
          have HJ := Lib.hid hj
          have HY := Lib.hid hy
          have HORD := Lib.hid (fun W (hW : Below w.heap.size w W) => order_any y ⟨xn, xk, xt, xd⟩ W (henv.later hW).env)
          unfold OrdEnd recV at HORD
          clear hy hprevk hbo hj hk0
          go_wp2_with fail
          refine HRC.out.mono ?_
          rintro e w2 ⟨rfl, hB2⟩
          have HBe := Lib.hid (HBr.out.trans (hB2.mono HBr.out.size))
          have hx1 := (hB2.block _ (Array.getElem?_eq_some_iff.1 Hx1b.out).1).trans Hx1b.out
          have hxr := (hB2.block _ (Array.getElem?_eq_some_iff.1 Hbr.out).1).trans Hbr.out
          have hc1 := fun j => cell_of_row w2 w.heap.size j _ _ _ hx1
          have hcr := fun j => cell_of_row w2 wr.heap.size j _ _ _ hxr
          have Hx1c := Lib.hid hx1
          have Hxr := Lib.hid hxr
          have HBf := Lib.hid (HB1.out.trans (HBe.out.mono HB1.out.size))
          obtain ⟨b', p', he, hb', e0, e1, e2, e3⟩ := recs_at (HR.out.later HBf.out) HY.out
          obtain ⟨rfl, rfl⟩ : b = b' ∧ p = p' := by injection he with he; injection he with h1 h2; exact ⟨h1, h2⟩
          obtain ⟨yn, yk, yt, yd⟩ := y
          dsimp only at *
          have hS1 : (fun W => W.cell? ⟨w.heap.size, 1, none⟩ = some (.slice (some ⟨b, p, none⟩) l.length zc) ∧ W.cell? ⟨b, p + j * 4, none⟩ = some (.string ⟨yn.toArray⟩) ∧ W.cell? ⟨b, p + j * 4 + 1, none⟩ = some (.int .i64 yk) ∧ W.cell? ⟨b, p + j * 4 + 2, none⟩ = some (.int .i64 yt) ∧ W.cell? ⟨b, p + j * 4 + 3, none⟩ = some (.string ⟨yd.toArray⟩) ∧ W.cell? ⟨wr.heap.size, 0, none⟩ = some (.string ⟨xn.toArray⟩) ∧ W.cell? ⟨wr.heap.size, 1, none⟩ = some (.int .i64 xk) ∧ W.cell? ⟨wr.heap.size, 2, none⟩ = some (.int .i64 xt) ∧ W.cell? ⟨wr.heap.size, 3, none⟩ = some (.string ⟨xd.toArray⟩)) w2.drew :=
            ⟨hc1 1, e0, e1, e2, e3, hcr 0, hcr 1, hcr 2, hcr 3⟩
          clear hB2 hx1 hxr e0 e1 e2 e3 he
          go_upto_region 15 with fail
          clear hc1 hcr
          refine wp_region_due [0, 1, 2, 3, 4, 5, 6, 7, 8, 9, 10, 11, 12] (fun W => W.cell? ⟨w.heap.size, 1, none⟩ = some (.slice (some ⟨b, p, none⟩) l.length zc) ∧ W.cell? ⟨b, p + j * 4, none⟩ = some (.string ⟨yn.toArray⟩) ∧ W.cell? ⟨b, p + j * 4 + 1, none⟩ = some (.int .i64 yk) ∧ W.cell? ⟨b, p + j * 4 + 2, none⟩ = some (.int .i64 yt) ∧ W.cell? ⟨b, p + j * 4 + 3, none⟩ = some (.string ⟨yd.toArray⟩) ∧ W.cell? ⟨wr.heap.size, 0, none⟩ = some (.string ⟨xn.toArray⟩) ∧ W.cell? ⟨wr.heap.size, 1, none⟩ = some (.int .i64 xk) ∧ W.cell? ⟨wr.heap.size, 2, none⟩ = some (.int .i64 xt) ∧ W.cell? ⟨wr.heap.size, 3, none⟩ = some (.string ⟨xd.toArray⟩)) (by kernel_rfl) ?_
          refine wpDue_take (i := 0) (v := ?_) rfl (by kernel_rfl) (by kernel_rfl) (by kernel_rfl) (by kernel_rfl) (fun _ _ _ h => h) hS1 (.inl ⟨by rfl, ?_⟩) ?_
          rotate_left
          · intro W hW; (try dsimp only at hW); go_simp; try with_reducible rfl
          try simp only [Act.put]
          try simp only [List.getElem_toArray]
          try simp only [List.getElem_cons_succ]
          try simp only [List.getElem_cons_zero]
          try simp only [List.setIfInBounds_toArray]
          try simp only [List.set_cons_succ]
          try simp only [List.set_cons_zero]
          refine wpDue_take (i := 1) (v := ?_) rfl (by kernel_rfl) (by kernel_rfl) (by kernel_rfl) (by kernel_rfl) (fun _ _ _ h => h) hS1 (.inl ⟨by rfl, ?_⟩) ?_
          rotate_left
          · intro W hW; (try dsimp only at hW); go_simp; try with_reducible rfl
          try simp only [Act.put]
          try simp only [List.getElem_toArray]
          try simp only [List.getElem_cons_succ]
          try simp only [List.getElem_cons_zero]
          try simp only [List.setIfInBounds_toArray]
          try simp only [List.set_cons_succ]
          try simp only [List.set_cons_zero]
          refine wpDue_take (i := 2) (v := ?_) rfl (by kernel_rfl) (by kernel_rfl) (by kernel_rfl) (by kernel_rfl) (fun _ _ _ h => h) hS1 (.inl ⟨by rfl, ?_⟩) ?_
          rotate_left
          · intro W hW; (try dsimp only at hW); go_simp; try with_reducible rfl
          try simp only [Act.put]
          try simp only [List.getElem_toArray]
          try simp only [List.getElem_cons_succ]
          try simp only [List.getElem_cons_zero]
          try simp only [List.setIfInBounds_toArray]
          try simp only [List.set_cons_succ]
          try simp only [List.set_cons_zero]
          refine wpDue_take (i := 3) (v := ?_) rfl (by kernel_rfl) (by kernel_rfl) (by kernel_rfl) (by kernel_rfl) (fun _ _ _ h => h) hS1 (.inl ⟨by rfl, ?_⟩) ?_
          rotate_left
          · intro W hW; (try dsimp only at hW); go_simp; try with_reducible rfl
          try simp only [Act.put]
          try simp only [List.getElem_toArray]
          try simp only [List.getElem_cons_succ]
          try simp only [List.getElem_cons_zero]
          try simp only [List.setIfInBounds_toArray]
          try simp only [List.set_cons_succ]
          try simp only [List.set_cons_zero]
          refine wpDue_take (i := 4) (v := ?_) rfl (by kernel_rfl) (by kernel_rfl) (by kernel_rfl) (by kernel_rfl) (fun _ _ _ h => h) hS1 (.inl ⟨by rfl, ?_⟩) ?_
          rotate_left
          · intro W hW; (try dsimp only at hW); go_simp; try with_reducible rfl
          try simp only [Act.put]
          try simp only [List.getElem_toArray]
          try simp only [List.getElem_cons_succ]
          try simp only [List.getElem_cons_zero]
          try simp only [List.setIfInBounds_toArray]
          try simp only [List.set_cons_succ]
          try simp only [List.set_cons_zero]
          refine wpDue_take (i := 5) (v := ?_) rfl (by kernel_rfl) (by kernel_rfl) (by kernel_rfl) (by kernel_rfl) (fun _ _ _ h => h) hS1 (.inl ⟨by rfl, ?_⟩) ?_
          rotate_left
          · intro W hW; (try dsimp only at hW); go_simp; try with_reducible rfl
          try simp only [Act.put]
          try simp only [List.getElem_toArray]
          try simp only [List.getElem_cons_succ]
          try simp only [List.getElem_cons_zero]
          try simp only [List.setIfInBounds_toArray]
          try simp only [List.set_cons_succ]
          try simp only [List.set_cons_zero]
          refine wpDue_take (i := 6) (v := ?_) rfl (by kernel_rfl) (by kernel_rfl) (by kernel_rfl) (by kernel_rfl) (fun _ _ _ h => h) hS1 (.inl ⟨by rfl, ?_⟩) ?_
          rotate_left
          · intro W hW; (try dsimp only at hW); go_simp; try with_reducible rfl
          try simp only [Act.put]
          try simp only [List.getElem_toArray]
          try simp only [List.getElem_cons_succ]
          try simp only [List.getElem_cons_zero]
          try simp only [List.setIfInBounds_toArray]
          try simp only [List.set_cons_succ]
          try simp only [List.set_cons_zero]
          refine wpDue_take (i := 7) (v := ?_) rfl (by kernel_rfl) (by kernel_rfl) (by kernel_rfl) (by kernel_rfl) (fun _ _ _ h => h) hS1 (.inl ⟨by rfl, ?_⟩) ?_
          rotate_left
          · intro W hW; (try dsimp only at hW); go_simp; try with_reducible rfl
          try simp only [Act.put]
          try simp only [List.getElem_toArray]
          try simp only [List.getElem_cons_succ]
          try simp only [List.getElem_cons_zero]
          try simp only [List.setIfInBounds_toArray]
          try simp only [List.set_cons_succ]
          try simp only [List.set_cons_zero]
          refine wpDue_take (i := 8) (v := ?_) rfl (by kernel_rfl) (by kernel_rfl) (by kernel_rfl) (by kernel_rfl) (fun _ _ _ h => h) hS1 (.inl ⟨by rfl, ?_⟩) ?_
          rotate_left
          · intro W hW; (try dsimp only at hW); go_simp; try with_reducible rfl
          try simp only [Act.put]
          try simp only [List.getElem_toArray]
          try simp only [List.getElem_cons_succ]
          try simp only [List.getElem_cons_zero]
          try simp only [List.setIfInBounds_toArray]
          try simp only [List.set_cons_succ]
          try simp only [List.set_cons_zero]
          refine wpDue_take (i := 9) (v := ?_) rfl (by kernel_rfl) (by kernel_rfl) (by kernel_rfl) (by kernel_rfl) (fun _ _ _ h => h) hS1 (.inl ⟨by rfl, ?_⟩) ?_
          rotate_left
          · intro W hW; (try dsimp only at hW); go_simp; try with_reducible rfl
          try simp only [Act.put]
          try simp only [List.getElem_toArray]
          try simp only [List.getElem_cons_succ]
          try simp only [List.getElem_cons_zero]
          try simp only [List.setIfInBounds_toArray]
          try simp only [List.set_cons_succ]
          try simp only [List.set_cons_zero]
          refine wpDue_one (i := 10) (by kernel_rfl) rfl (fun K hK => ?_)
          have HK := Lib.hid hK
          clear hK
          go_simp
          refine (HORD.out _ HBf.out.drew).mono ?_
          rintro e w3 ⟨rfl, hB3⟩
          have go : ∀ p v, w2.drew.cell? p = some v → w3.cell? p = some v := fun p v h => (hB3.cell (World.block_lt_of_cell? _ _ h)).trans h
          obtain ⟨s1, s2, s3, s4, s5, s6, s7, s8, s9⟩ := hS1
          have hS3 := And.intro (go _ _ s1) (And.intro (go _ _ s2) (And.intro (go _ _ s3) (And.intro (go _ _ s4) (And.intro (go _ _ s5) (And.intro (go _ _ s6) (And.intro (go _ _ s7) (And.intro (go _ _ s8) (go _ _ s9))))))))
          have HB3 := Lib.hid (HBe.out.drew.trans (hB3.mono HBe.out.drew.size))
          have hx3 : w3.heap[wr.heap.size]? = _ := (hB3.block _ (Array.getElem?_eq_some_iff.1 Hxr.out).1).trans Hxr.out
          have Hx3 := Lib.hid hx3
          clear go s1 s2 s3 s4 s5 s6 s7 s8 s9 hB3 hx3 HORD
          generalize hoq : Zn.ord ⟨yn, yk, yt, yd⟩ ⟨xn, xk, xt, xd⟩ = oq at *
          refine HK.out _ _ (fun _ => hS3) ?_
          clear HK K
          try simp only [Act.put]
          try simp only [List.getElem_toArray]
          try simp only [List.getElem_cons_succ]
          try simp only [List.getElem_cons_zero]
          try simp only [List.setIfInBounds_toArray]
          try simp only [List.set_cons_succ]
          try simp only [List.set_cons_zero]
          refine wpDue_one (i := 11) (by kernel_rfl) rfl (fun K hK => ?_)
          have HK := Lib.hid hK
          clear hK
          go_simp
          refine HK.out _ _ (fun _ => hS3) ?_
          clear HK K
          try simp only [Act.put]
          try simp only [List.getElem_toArray]
          try simp only [List.getElem_cons_succ]
          try simp only [List.getElem_cons_zero]
          try simp only [List.setIfInBounds_toArray]
          try simp only [List.set_cons_succ]
          try simp only [List.set_cons_zero]
          refine wpDue_one (i := 12) (by kernel_rfl) rfl (fun K hK => ?_)
          have HK := Lib.hid hK
          clear hK
          go_simp
          refine HK.out _ _ (fun _ => hS3) ?_
          clear HK K
          try simp only [Act.put]
          try simp only [List.getElem_toArray]
          try simp only [List.getElem_cons_succ]
          try simp only [List.getElem_cons_zero]
          try simp only [List.setIfInBounds_toArray]
          try simp only [List.set_cons_succ]
          try simp only [List.set_cons_zero]
          refine wpDue_done (by kernel_rfl) ?_ _
          clear hS3
          have hc3 := fun j => cell_of_row w3 wr.heap.size j _ _ _ Hx3.out
          have HBz := Lib.hid (HB1.out.trans (HB3.out.mono HB1.out.size))
          by_cases hge : 0 ≤ oq
          · have hbt : bb = true := by rw [Hbo.out]; simp [hge]
            have hs2 := HS1.out
            rw [scan_there HQ.out (by rw [HBB.out, hbt])] at hs2
            have HG2 := Lib.hid HG.out
            rw [hs2, if_pos (show (6 : Int) ≠ 0 by decide)] at HG2
            clear hs2 hbt HG HS1 HBB Hbo HQ hk5 c0 c1 c2 c3
            go_wp2
            go_ret
            exact ⟨by rw [HG2.out]; rfl, HBz.out⟩
          · have hbt : bb = false := by rw [Hbo.out]; simp [hge]
            have hs2 := HS1.out
            rw [scan_next HQ.out (by rw [HBB.out, hbt])] at hs2
            have hprev : some (⟨xn, xk, xt, xd⟩ : Cb.Rec) = prevR l (k + 1) := by unfold prevR; rw [if_neg (by omega)]; exact HX.out.symm
            rw [hprev] at hs2
            clear hprev hbt HS1 HBB Hbo HQ c0 c1 c2 c3
            rcases hk5 with ⟨hk5, hn5⟩ | ⟨hk5, hn5⟩
            all_goals
              rw [hn5] at hs2
              have HS2 := Lib.hid hs2
              clear hs2 hn5
              go_wp2
              refine ⟨⟨k + 1, _, by omega, by go_num, by go_num, ⟨HS2.out, by omega, HB3.out⟩⟩, by simp [intOf]; omega⟩
      · have hqb : (q == 0) = false := beq_eq_false_iff_ne.2 hq0
        have hqb2 : (q != 0) = true := by rw [bne, hqb]; rfl
        have hs1 := HI.out.1
        rw [rec_drop HX.out, scan_bad (by rw [hq]; exact hq0)] at hs1
        have HG2 := Lib.hid HG.out
        rw [hs1, if_pos (by rw [hq]; exact hq0), hq] at HG2
        clear hs1 hq hq0 HG
        go_wp2_with fail
        refine HRC.out.mono ?_
        rintro e w2 ⟨rfl, hB2⟩
        have HBe := Lib.hid (HB1.out.trans ((HBr.out.trans (hB2.mono HBr.out.size)).mono HB1.out.size))
        clear hB2
        go_wp2
        go_ret
        exact ⟨by rw [HG2.out]; rfl, HBe.out⟩
    · obtain rfl : k = l.length := by omega
      have hsc := HI.out.1
      rw [List.drop_length] at hsc
      have hG := HG.out
      rw [hsc] at hG
      have hc1 := fun j => cell_of_row wr w.heap.size j _ _ _ hx1
      clear hsc hBw
      by_cases h1 : n = 1
      · rw [if_neg (by show ¬ (0 : Int) ≠ 0; decide), if_neg (by show ¬ n ≠ 1; omega)] at hG
        have h1' : ((n : Int) == 1) = true := by rw [beq_iff_eq]; omega
        have HG2 := Lib.hid hG
        have Hxr := Lib.hid hx1
        have hn1 : (n : Int) = 1 := by omega
        rw [hn1]
        clear hG HG h1 hx1 hn1 h1'
        go_wp2
        generalize wr = w5 at *
        go_loopw [61] (fun kv wr => ∃ (k : Nat), k ≤ l.length ∧ kv = .int .i64 k ∧ Hid (AllInv ⟨o, l⟩ w5 k wr)) (fun kv _ => l.length - (intOf kv).toNat)
        case atStart => exact ⟨0, Nat.zero_le _, rfl, ⟨rfl, Below.refl _ _⟩⟩
        case round =>
          obtain ⟨k, hk, rfl, HJ⟩ := hrel
          have hx2 := (HJ.out.2.block _ (Array.getElem?_eq_some_iff.1 Hxr.out).1).trans Hxr.out
          have hc2 := fun j => cell_of_row wr w.heap.size j _ _ _ hx2
          have hne : w.heap.size < wr.heap.size := (Array.getElem?_eq_some_iff.1 hx2).1
          have HBu := Lib.hid (HBt.out.trans (HJ.out.2.mono HBt.out.size))
          clear hc1 hx2
          by_cases hlt : k < l.length
          · obtain ⟨x, hx⟩ : ∃ x, l[k]? = some x := ⟨l[k], List.getElem?_eq_getElem hlt⟩
            obtain ⟨b, p, rfl, hb, c0, c1, c2, c3⟩ := recs_at (HR.out.later HBu.out) hx
            have hi0 : (0 : Int) ≤ (k : Int) := by omega
            have hi1 : (k : Int) < (l.length : Int) := by omega
            have HX := Lib.hid hx
            have hBr := (Below.refl wr.heap.size wr).alloc (Nat.le_refl _) (.cells #[.string ⟨x.name.toArray⟩, .int .i64 x.kind, .int .i64 x.ttl, .string ⟨x.data.toArray⟩] 43)
            have hbr := heap_alloc_new wr (.cells #[.string ⟨x.name.toArray⟩, .int .i64 x.kind, .int .i64 x.ttl, .string ⟨x.data.toArray⟩] 43)
            have hAB := HBu.out.trans (hBr.mono HBu.out.size)
            have HAG := Lib.hid (agrees_any B o (some ⟨b, p, none⟩) zc l x _ (henv.later hAB).env (HR.out.later hAB))
            unfold zoneV AgEnd recV at HAG
            have HBr := Lib.hid hBr
            have Hbr := Lib.hid hbr
            clear hx hBr hbr hAB
            have hall := HJ.out.1
            have hnext := all_next (p := Zn.agrees ⟨o, l⟩) HX.out
            have hbad := all_bad (p := Zn.agrees ⟨o, l⟩) HX.out
            generalize Zn.agrees ⟨o, l⟩ x = g at *
            dsimp only at hall
            rw [hall, Bool.true_and] at hnext
            obtain ⟨xn, xk, xt, xd⟩ := x
            dsimp only at *
            cases g with
            | true =>
              have Hnext := Lib.hid hnext
              clear hnext hbad hall HG2
              go_wp2_with fail
              refine HAG.out.mono ?_
              rintro e w6 ⟨rfl, hB6⟩
              have HBe := Lib.hid (HJ.out.2.trans ((HBr.out.trans (hB6.mono HBr.out.size)).mono HJ.out.2.size))
              clear hB6 c0 c1 c2 c3
              go_wp2
              refine ⟨⟨k + 1, by omega, by go_num, ⟨Hnext.out, HBe.out⟩⟩, by simp [intOf]; omega⟩
            | false =>
              have hG := HG2.out
              rw [if_pos (hbad rfl)] at hG
              have HG3 := Lib.hid hG
              clear hnext hbad hall HG2 hG
              go_wp2_with fail
              refine HAG.out.mono ?_
              rintro e w6 ⟨rfl, hB6⟩
              have HBe := Lib.hid (HBu.out.trans ((HBr.out.trans (hB6.mono HBr.out.size)).mono HBu.out.size))
              clear hB6 c0 c1 c2 c3
              go_wp2
              go_ret
              exact ⟨by rw [HG3.out]; rfl, HBe.out⟩
          · obtain rfl : k = l.length := by omega
            have hall := HJ.out.1
            dsimp only at hall
            rw [List.take_length] at hall
            have hG := HG2.out
            rw [if_neg (by rw [hall]; decide)] at hG
            have HG3 := Lib.hid hG
            clear hG hall
            go_wp2
            go_ret
            exact ⟨by rw [HG3.out]; rfl, HBu.out⟩
      · rw [if_neg (by show ¬ (0 : Int) ≠ 0; decide), if_pos (by show n ≠ 1; omega)] at hG
        have h1' : ((n : Int) == 1) = false := by rw [beq_eq_false_iff_ne]; omega
        have HG2 := Lib.hid hG
        clear hG HG h1
        go_wp2
        go_ret
        exact ⟨by rw [HG2.out]; rfl, HBt.out⟩
theorem zcheck_any (henv : EnvZ w) (hr : Recs B w (.slice za l.length zc) l) (hs : ∀ r ∈ l, r.data.length ≤ 1048576) :
    Calls Tryz.prog 14 #[zoneV o za l.length zc] w (ChkEnd ⟨o, l⟩ w) := by
  by_cases h1 : Lb.check o = 0
  · cases h2 : Zn.star o with
    | true => exact zcheck_early o za zc l w henv (.inr ⟨h1, .inl h2⟩)
    | false =>
      by_cases h3 : l.length ≤ 60
      · exact zcheck_scan B o za zc l w henv hr hs h1 h2 h3
      · exact zcheck_early o za zc l w henv (.inr ⟨h1, .inr ⟨h2, by omega⟩⟩)
  · exact zcheck_early o za zc l w henv (.inl h1)
end
end Go.Proofs.YtajllcbjgndcpaaGreatDoor
