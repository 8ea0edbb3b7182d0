/- WALKS: reply.owned, reply.wild. -/
import Derived.Test.YtajllcbjgndcpaaGreatDoorY2
import Derived.Test.YtajllcbjgndcpaaGreatDoorK9
namespace Go.Proofs.YtajllcbjgndcpaaGreatDoor
open Go.RowKit Go.Maps

theorem Blk.froz {w : World} {b : Nat} {cs : Array Value} {T : TypeId} (h : Blk w b cs T) (j : Nat) : w.frozen? ⟨b, j, none⟩ = false := frozen_of_row w b j _ _ h
/-! A reply that is stored whole. -/
abbrev five (w : World) (s : Nat) (v0 v1 v2 v3 v4 : Value) : World := ((((w.setCell ⟨s, 0, none⟩ v0).setCell ⟨s, 1, none⟩ v1).setCell ⟨s, 2, none⟩ v2).setCell ⟨s, 3, none⟩ v3).setCell ⟨s, 4, none⟩ v4
theorem five_blk {w : World} {s : Nat} {t : TypeId} {z0 z1 z2 z3 z4 v0 v1 v2 v3 v4 : Value} (h : Blk w s #[z0, z1, z2, z3, z4] t) : Blk (five w s v0 v1 v2 v3 v4) s #[v0, v1, v2, v3, v4] t := by
  unfold Blk
  rw [heap_setCell_same _ _ 4 _ _ _ (heap_setCell_same _ _ 3 _ _ _ (heap_setCell_same _ _ 2 _ _ _ (heap_setCell_same _ _ 1 _ _ _ (heap_setCell_same _ _ 0 _ _ _ h))))]
  rfl
theorem five_lo {B : Nat} {a w : World} {s : Nat} {v0 v1 v2 v3 v4 : Value} (h : Below B a w) (hs : B ≤ s) : Below B a (five w s v0 v1 v2 v3 v4) := by
  refine Below.setCell ?_ hs _
  refine Below.setCell ?_ hs _
  refine Below.setCell ?_ hs _
  refine Below.setCell ?_ hs _
  exact Below.setCell h hs _
theorem RowR.five {B : Nat} {w : World} {v : Value} {l : List Cb.Rec} (h : RowR B w v l) {s : Nat} (hs : s < B) {v0 v1 v2 v3 v4 : Value} : RowR B (five w s v0 v1 v2 v3 v4) v l := by
  refine RowR.setLow ?_ _ hs _
  refine RowR.setLow ?_ _ hs _
  refine RowR.setLow ?_ _ hs _
  refine RowR.setLow ?_ _ hs _
  exact RowR.setLow h _ hs _
theorem rowR_nil (B : Nat) (w : World) : RowR B w (.slice none 0 0) [] := World.ownsRow_nil _ _ _ _
/-- A reply with its three lists in rows of the call's own. -/
structure RepR (B : Nat) (w : World) (v : Value) (r : Rn.Reply) : Prop where
  val : ∃ v1 v2 v3, v = .agg #[.int .i64 r.code, v1, v2, v3, .int .i64 r.neg] ∧ RowR B w v1 r.recs ∧ RowR B w v2 r.servers ∧ RowR B w v3 r.glue
theorem RepR.later {B : Nat} {w w' : World} {v : Value} {r : Rn.Reply} (h : RepR B w v r) (hb : Below w.heap.size w w') : RepR B w' v r := by
  obtain ⟨v1, v2, v3, hv, h1, h2, h3⟩ := h.val
  exact ⟨v1, v2, v3, hv, h1.later hb, h2.later hb, h3.later hb⟩
theorem RepR.mono {B B' : Nat} {w : World} {v : Value} {r : Rn.Reply} (h : RepR B w v r) (hb : B' ≤ B) : RepR B' w v r := by
  obtain ⟨v1, v2, v3, hv, h1, h2, h3⟩ := h.val
  exact ⟨v1, v2, v3, hv, h1.mono hb, h2.mono hb, h3.mono hb⟩
def RepEnd (r : Rn.Reply) (w0 : World) (e : Ending) (w' : World) : Prop := ∃ v, e = .returned v ∧ RepR w0.heap.size w' v r ∧ Below w0.heap.size w0 w'

set_option maxHeartbeats 6400000 in
set_option maxRecDepth 100000 in
theorem owned_any (B : Nat) (o : Lb.Bs) (za : Option Addr) (zc : Nat) (l : List Cb.Rec) (src nm : Lb.Bs) (kd : Int) (w : World) (henv : EnvZ w) (hr : Recs B w (.slice za l.length zc) l) (hl : l.length ≤ 100000) (hs : ∀ r ∈ l, r.data.length ≤ 1048576) :
    Calls Tryz.prog 56 #[zoneV o za l.length zc, .string ⟨src.toArray⟩, .string ⟨nm.toArray⟩, .int .i64 kd] w (RepEnd (Rn.owned ⟨o, l⟩ src nm kd) w) := by
  have HR1 := Lib.hid (fun W (hW : Below w.heap.size w W) => records_any B o za zc l src nm kd W (hr.later hW) hl)
  have HR2 := Lib.hid (fun W (hW : Below w.heap.size w W) => records_any B o za zc l src nm 2 W (hr.later hW) hl)
  have HNG := Lib.hid (fun W (hW : Below w.heap.size w W) => negative_any B o za zc l W (henv.later hW) (hr.later hW) hs)
  unfold zoneV at *
  unfold RcEnd at HR1 HR2
  unfold NegEnd at HNG
  have hB : Below w.heap.size w ((w.alloc (.cells #[.string ⟨o.toArray⟩, .slice za l.length zc] 24)).alloc (.cells #[.int .i64 0, .slice none 0 0, .slice none 0 0, .slice none 0 0, .int .i64 0] 39)) := ((Below.refl _ w).alloc (Nat.le_refl _) _).alloc (by simp) _
  have hb1 := (blk_new w #[.string ⟨o.toArray⟩, .slice za l.length zc] 24).alloc (.cells #[.int .i64 0, .slice none 0 0, .slice none 0 0, .slice none 0 0, .int .i64 0] 39)
  have hb2 := blk_second w (.cells #[.string ⟨o.toArray⟩, .slice za l.length zc] 24) #[.int .i64 0, .slice none 0 0, .slice none 0 0, .slice none 0 0, .int .i64 0] 39
  unfold Rn.owned
  dsimp only
  obtain ⟨L1, hL1⟩ : ∃ L1, Rn.recsOf l src kd nm = L1 := ⟨_, rfl⟩
  obtain ⟨L2, hL2⟩ : ∃ L2, Rn.recsOf l src 2 nm = L2 := ⟨_, rfl⟩
  obtain ⟨ng, hng⟩ : ∃ ng, Rn.negOf l = ng := ⟨_, rfl⟩
  rw [hL1] at HR1 ⊢
  rw [hL2] at HR2 ⊢
  rw [hng] at HNG ⊢
  clear hL1 hL2 hng hr hl hs
  have HB := Lib.hid hB
  have Hb1 := Lib.hid hb1
  have Hb2 := Lib.hid hb2
  clear hB hb1 hb2
  by_cases h1 : L1 = []
  · rw [if_neg (by simp [h1])]
    subst h1
    by_cases h2 : L2 = []
    · rw [if_neg (by simp [h2])]
      subst h2
      go_enter Tryz.func56, Tryz.ntmps56
      go_wp2_with fail
      generalize (w.alloc (.cells #[.string ⟨o.toArray⟩, .slice za l.length zc] 24)).alloc (.cells #[.int .i64 0, .slice none 0 0, .slice none 0 0, .slice none 0 0, .int .i64 0] 39) = w2 at *
      refine (HR1.out _ HB.out).mono ?_
      rintro e w3 ⟨v, rfl, hrow, hB3⟩
      obtain ⟨a, cap, rfl⟩ := hrow.val
      have HB3 := Lib.hid (HB.out.trans (hB3.mono HB.out.size))
      have hz := (Hb1.out.later hB3)
      have Hz := Lib.hid hz
      have Hq := Lib.hid (Hb2.out.later hB3)
      have hc := fun j => hz.cell j
      clear hz hrow hB3 HR1
      dsimp only [List.length_nil]
      go_wp2_with fail
      refine (HR2.out _ HB3.out).mono ?_
      rintro e w4 ⟨v, rfl, hrow, hB4⟩
      obtain ⟨a4, cap4, rfl⟩ := hrow.val
      have HB4 := Lib.hid (HB3.out.trans (hB4.mono HB3.out.size))
      have hz := (Hz.out.later hB4)
      have Hz4 := Lib.hid hz
      have Hq4 := Lib.hid (Hq.out.later hB4)
      have hc4 := fun j => hz.cell j
      clear hz hrow hB4 HR2 hc Hz Hq
      dsimp only [List.length_nil]
      go_wp2_with fail
      refine (HNG.out _ HB4.out).mono ?_
      rintro e w5 ⟨rfl, hB5⟩
      have HB5 := Lib.hid (HB4.out.trans (hB5.mono HB4.out.size))
      have hq5 := Hq4.out.later hB5
      have Hq5 := Lib.hid hq5
      have hlt := hq5.lt
      have hcq := fun j => hq5.cell j
      have hfq := fun j => hq5.froz j
      clear hB5 hq5 HNG hc4 Hz4
      go_wp2
      refine bodyPost_ret (results_cell_row rfl _ _ (w.heap.size + 1) 39 _ (0, 0) _ rfl (five_blk Hq5.out) Tryz.underlying39 rfl (by kernel_rfl)) rfl ?_
      exact ⟨_, rfl, ⟨_, _, _, rfl, rowR_nil _ _, rowR_nil _ _, rowR_nil _ _⟩, five_lo HB5.out (by omega)⟩
    · rw [if_pos h2]
      have hpos : (0 : Int) < (L2.length : Int) := by have := List.length_pos_iff.2 h2; omega
      clear h2
      go_enter Tryz.func56, Tryz.ntmps56
      go_wp2_with fail
      generalize (w.alloc (.cells #[.string ⟨o.toArray⟩, .slice za l.length zc] 24)).alloc (.cells #[.int .i64 0, .slice none 0 0, .slice none 0 0, .slice none 0 0, .int .i64 0] 39) = w2 at *
      refine (HR1.out _ HB.out).mono ?_
      rintro e w3 ⟨v, rfl, hrow, hB3⟩
      obtain ⟨a, cap, rfl⟩ := hrow.val
      have HB3 := Lib.hid (HB.out.trans (hB3.mono HB.out.size))
      have hz := (Hb1.out.later hB3)
      have Hq := Lib.hid (Hb2.out.later hB3)
      have hc := fun j => hz.cell j
      clear hz hrow hB3 HR1
      dsimp only [List.length_nil]
      go_wp2_with fail
      refine (HR2.out _ HB3.out).mono ?_
      rintro e w4 ⟨v, rfl, hrow, hB4⟩
      obtain ⟨a4, cap4, rfl⟩ := hrow.val
      have HB4 := Lib.hid (HB3.out.trans (hB4.mono HB3.out.size))
      have hq4 := Hq.out.later hB4
      have Hq4 := Lib.hid hq4
      have hlt := Hq.out.lt
      have hcq := fun j => hq4.cell j
      have hfq := fun j => hq4.froz j
      have HO := Lib.hid hrow
      have hsz := HB3.out.size
      clear hrow hB4 HR2 hc Hq hq4
      generalize hn : L2.length = n2 at *
      have Hn := Lib.hid hn
      clear hn
      go_wp2
      refine bodyPost_ret (results_cell_row rfl _ _ (w.heap.size + 1) 39 _ (0, 0) _ rfl (five_blk Hq4.out) Tryz.underlying39 rfl (by kernel_rfl)) rfl ?_
      exact ⟨_, rfl, ⟨_, _, _, rfl, (HO.out.five hlt).mono hsz, rowR_nil _ _, rowR_nil _ _⟩, five_lo HB4.out (by omega)⟩
  · rw [if_pos h1]
    have hpos : (0 : Int) < (L1.length : Int) := by have := List.length_pos_iff.2 h1; omega
    clear h1
    go_enter Tryz.func56, Tryz.ntmps56
    go_wp2_with fail
    generalize (w.alloc (.cells #[.string ⟨o.toArray⟩, .slice za l.length zc] 24)).alloc (.cells #[.int .i64 0, .slice none 0 0, .slice none 0 0, .slice none 0 0, .int .i64 0] 39) = w2 at *
    refine (HR1.out _ HB.out).mono ?_
    rintro e w3 ⟨v, rfl, hrow, hB3⟩
    obtain ⟨a, cap, rfl⟩ := hrow.val
    have HB3 := Lib.hid (HB.out.trans (hB3.mono HB.out.size))
    have hq4 := Hb2.out.later hB3
    have Hq4 := Lib.hid hq4
    have hlt := Hb2.out.lt
    have hcq := fun j => hq4.cell j
    have hfq := fun j => hq4.froz j
    have HO := Lib.hid hrow
    have hsz := HB.out.size
    clear hrow hB3 HR1 hq4
    generalize hn : L1.length = n2 at *
    have Hn := Lib.hid hn
    clear hn
    go_wp2
    refine bodyPost_ret (results_cell_row rfl _ _ (w.heap.size + 1) 39 _ (0, 0) _ rfl (five_blk Hq4.out) Tryz.underlying39 rfl (by kernel_rfl)) rfl ?_
    exact ⟨_, rfl, ⟨_, _, _, rfl, (HO.out.five hlt).mono hsz, rowR_nil _ _, rowR_nil _ _⟩, five_lo HB3.out (by omega)⟩

/-! The wildcard. -/
theorem str_app (a b : Lb.Bs) : (⟨a.toArray⟩ : ByteArray) ++ ⟨b.toArray⟩ = ⟨(a ++ b).toArray⟩ := by apply ByteArray.ext; simp
def bsOf : Value → Lb.Bs
  | .string s => s.data.toList
  | _ => []
theorem trim_join {r : List Lb.Bs} (h : Lb.labsOk r = true) : Lib.trimPrefix (Lb.join r) [46] = if r = [] then [] else Lb.join r := by
  cases r with
  | nil => rfl
  | cons x r =>
    rw [if_neg (by simp)]
    have hx := Lb.labsOk_all h x (by simp)
    have hne := Lb.isLab_ne hx
    have hd := Lb.isLab_nodot hx
    have hj : Lb.join (x :: r) = (x ++ [46]) ++ r.flatMap (· ++ [46]) := by unfold Lb.join; rw [if_neg (by simp)]; rfl
    unfold Lib.trimPrefix Lib.hasPrefix
    rw [hj]
    cases x with
    | nil => exact absurd rfl hne
    | cons c s =>
      have : c ≠ 46 := fun e => hd (by simp [e])
      rw [if_neg (by simp; exact fun e => this e.symm)]
structure WildInv (z : Zn.Zone) (n0 n : Lb.Bs) (w0 wr : World) : Prop where
  same : Rn.wild z n0 = Rn.wild z n
  in_ : Zn.under n z.origin = true
  no : Rn.has z.recs n = false
  bel : Below w0.heap.size w0 wr
def StrEnd (s : Lb.Bs) (w0 : World) (e : Ending) (w' : World) : Prop := e = .returned (.string ⟨s.toArray⟩) ∧ Below w0.heap.size w0 w'

set_option maxHeartbeats 6400000 in
set_option maxRecDepth 100000 in
theorem wild_any (B : Nat) (o : Lb.Bs) (za : Option Addr) (zc : Nat) (l : List Cb.Rec) (nm : Lb.Bs) (w : World) (henv : Env w) (hr : Recs B w (.slice za l.length zc) l) (hz : Rn.Ok ⟨o, l⟩) (hu : Zn.under nm o = true) (hn : Rn.has l nm = false) :
    Calls Tryz.prog 57 #[zoneV o za l.length zc, .string ⟨nm.toArray⟩] w (StrEnd (Rn.wild ⟨o, l⟩ nm) w) := by
  have HX := Lib.hid (fun (n : Lb.Bs) W (hW : Below w.heap.size w W) => exists_any B o za zc l ⟨n.toArray⟩ W (henv.later hW) (hr.later hW))
  have HP := Lib.hid (fun (n : Lb.Bs) W (hW : Below w.heap.size w W) (hf : Lb.Fit n) (x : Lb.Bs) (r : List Lb.Bs) (hs : Lb.split n = x :: r) => parent_fit ⟨n.toArray⟩ W (henv.later hW) hf (by rw [hs]; simp))
  unfold HasEnd zoneV at HX
  unfold zoneV
  have HBa := Lib.hid ((Below.refl _ w).alloc (Nat.le_refl _) (.cells #[.string ⟨o.toArray⟩, .slice za l.length zc] 24))
  have Hb1 := Lib.hid (blk_new w #[.string ⟨o.toArray⟩, .slice za l.length zc] 24)
  have HI0 := Lib.hid (⟨rfl, hu, hn, Below.refl _ _⟩ : WildInv ⟨o, l⟩ nm nm (w.alloc (.cells #[.string ⟨o.toArray⟩, .slice za l.length zc] 24)) (w.alloc (.cells #[.string ⟨o.toArray⟩, .slice za l.length zc] 24)))
  have HZ := Lib.hid hz
  clear hr hz hu hn
  go_enter Tryz.func57, Tryz.ntmps57
  go_wp2
  generalize w.alloc (.cells #[.string ⟨o.toArray⟩, .slice za l.length zc] 24) = w1 at *
  go_loopw [1] (fun nv wr => ∃ (n : Lb.Bs), nv = .string ⟨n.toArray⟩ ∧ Hid (WildInv ⟨o, l⟩ nm n w1 wr)) (fun nv _ => (Lb.split (bsOf nv)).length)
  case atStart => exact ⟨nm, rfl, HI0.out⟩
  case round =>
    obtain ⟨n, rfl, HI⟩ := hrel
    obtain ⟨x, r, hs, hu, hsr, hfr⟩ := Rn.wild_step HZ.out HI.out.in_ HI.out.no
    have hfn := (Rn.under_iff.1 HI.out.in_).1
    have hp := HP.out n wr (HBa.out.trans (HI.out.bel.mono HBa.out.size)) hfn x r hs
    rw [hs, List.tail_cons] at hp
    have HPn := Lib.hid hp
    have Hs := Lib.hid hs
    have Hu := Lib.hid hu
    have Hsr := Lib.hid hsr
    have Hfr := Lib.hid hfr
    clear hs hu hsr hfr hfn hp
    go_wp2_with fail
    refine HPn.out.mono ?_
    rintro e w2 ⟨rfl, hB2⟩
    have HB2 := Lib.hid (HI.out.bel.trans (hB2.mono HI.out.bel.size))
    have hz2 := Hb1.out.later HB2.out
    have hc := fun j => hz2.cell j
    clear hB2 hz2 HPn
    go_wp2_with fail
    refine (HX.out (Lb.join r) _ (HBa.out.trans (HB2.out.mono HBa.out.size))).mono ?_
    rintro e w3 ⟨rfl, hB3⟩
    have HB3 := Lib.hid (HB2.out.trans (hB3.mono HB2.out.size))
    clear hB3 hc
    cases hh : Rn.has l (Lb.join r) with
    | true =>
      have hw := Rn.wild_found (z := ⟨o, l⟩) Hs.out hh
      rw [← trim_join (by rw [← Hsr.out]; exact Hfr.out.labs)] at hw
      have Hw := Lib.hid (HI.out.same.trans hw)
      clear hw hh
      have hT := Tryz.strings_TrimPrefix ⟨(Lb.join r).toArray⟩ ⟨#[46]⟩ w3
      have hlen : (Lib.trimPrefix (Lb.join r) [46]).length ≤ 80 := by
        have := Hfr.out.len
        unfold Lib.trimPrefix
        split
        · rw [List.length_drop]; omega
        · exact this
      have HT := Lib.hid (show Calls Tryz.prog 102 #[.string ⟨(Lb.join r).toArray⟩, .string ⟨#[46]⟩] w3 fun e w' => e = .returned (.string ⟨(Lib.trimPrefix (Lb.join r) [46]).toArray⟩) ∧ w' = w3 from hT)
      clear hT
      generalize Lib.trimPrefix (Lb.join r) [46] = tp at *
      go_wp2_with fail
      refine HT.out.mono ?_
      rintro e w4 ⟨rfl, rfl⟩
      go_wp2
      go_ret
      exact ⟨by rw [Hw.out]; exact congrArg (fun s => Ending.returned (Value.string s)) (str_app [42, 46] tp), HBa.out.trans (HB3.out.mono HBa.out.size)⟩
    | false =>
      have hw := Rn.wild_on (z := ⟨o, l⟩) Hs.out Hsr.out hh
      have Hn := Lib.hid (⟨HI.out.same.trans hw, Hu.out, hh, HB3.out⟩ : WildInv ⟨o, l⟩ nm (Lb.join r) w1 w3)
      have hms : (Lb.split (Lb.join r)).length < (Lb.split n).length := by rw [Hs.out, Hsr.out]; simp
      have Hms := Lib.hid hms
      clear hw hh hms
      go_wp2
      refine ⟨⟨_, rfl, Hn.out⟩, ?_⟩
      simpa [bsOf] using Hms.out
end Go.Proofs.YtajllcbjgndcpaaGreatDoor
