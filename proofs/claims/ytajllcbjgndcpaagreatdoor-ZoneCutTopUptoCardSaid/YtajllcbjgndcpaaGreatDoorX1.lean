/- WALKS: zone.Print. -/
import Derived.Test.YtajllcbjgndcpaaGreatDoorZ10
import Derived.Test.YtajllcbjgndcpaaGreatDoorY5
import Derived.Test.YtajllcbjgndcpaaGreatDoorPn
import Derived.Shelf.Strings.BuilderK
namespace Go.Proofs.YtajllcbjgndcpaaGreatDoor
open Go.RowKit Go.Maps

/-! The builder. -/
def IsB (B b : Nat) (l : Lb.Bs) (w : World) : Prop := Lib.IsBuilderF 82 5 B b (Lib.byteCells l) w
theorem IsB.later {B b : Nat} {l : Lb.Bs} {w w' : World} (h : IsB B b l w) (hb : Below w.heap.size w w') : IsB B b l w' := by
  have key : ∀ p, Lib.BuilderAtF 82 5 B b p (Lib.byteCells l) w → Lib.BuilderAtF 82 5 B b p (Lib.byteCells l) w' := by
    rintro p ⟨hB, v, h1, h2, h3⟩
    refine ⟨hB, v, (hb.block b (Array.getElem?_eq_some_iff.1 h1).1).trans h1, ⟨h2.1, ?_⟩, h3⟩
    rcases h2.2 with h4 | ⟨g, cap, cur, fz, e, h5, h6, h7⟩
    · exact .inl h4
    · exact .inr ⟨g, cap, cur, fz, e, h5, (hb.block g (Array.getElem?_eq_some_iff.1 h6).1).trans h6, h7⟩
  rcases h with h | h
  · exact .inl (key _ h)
  · exact .inr (key _ h)
theorem IsB.lt {B b : Nat} {l : Lb.Bs} {w : World} (h : IsB B b l w) : b < w.heap.size := by
  rcases h with h | h <;> exact Lib.BuilderAtF.lt h
theorem isB_fresh (w : World) : IsB w.heap.size w.heap.size [] (w.alloc (.cells #[.pointer none, .slice none 0 0] 82)) := Lib.IsBuilderF.of (Lib.fresh_isBuilder 82 5 w)
def WrEnd (B b : Nat) (l : Lb.Bs) (w0 : World) (e : Ending) (w' : World) : Prop := ∃ v, e = .returned v ∧ IsB B b l w' ∧ Below B w0 w' ∧ Lib.OthersKept 5 (some b) w0 w'
theorem write_any (B b : Nat) (l s : Lb.Bs) (w : World) (h : IsB B b l w) (hl : l.length + s.length ≤ 140737488355328) (hB : B ≤ w.heap.size) :
    Calls Tryz.prog 45 #[.pointer (some ⟨b, 0, none⟩), .string ⟨s.toArray⟩] w (WrEnd B b (l ++ s) w) := by
  have h0 := Any.Builder_WriteString_k (P := Tryz.prog) (ρ := Tryz.lays156_ren) { Tryz.lays156 with } Tryz.Builder_Extra_156 B b (Lib.byteCells l) ⟨s.toArray⟩ w h (by rw [Lib.byteCells_length, size_of]; exact hl) hB
  refine (show Calls Tryz.prog 45 #[.pointer (some ⟨b, 0, none⟩), .string ⟨s.toArray⟩] w _ from h0).mono fun e w' ⟨he, h1, h2, h3⟩ => ⟨_, he, ?_, h2, h3⟩
  rw [Lib.strCells_eq, ← Lib.byteCells_append] at h1
  exact .inr h1
theorem bstring_any (B b : Nat) (l : Lb.Bs) (w : World) (h : IsB B b l w) (hB : B ≤ w.heap.size) :
    Calls Tryz.prog 48 #[.pointer (some ⟨b, 0, none⟩)] w fun e w' => e = .returned (.string ⟨l.toArray⟩) ∧ Below B w w' :=
  (Tryz.Builder_String_any_k B b l w h hB).mono fun e w' ⟨he, _, hb, _⟩ => ⟨he, hb⟩
def PrEnd (p : Lb.Bs × Int) (w0 : World) (e : Ending) (w' : World) : Prop := e = .returned (.tuple #[.string ⟨p.1.toArray⟩, .int .i64 p.2]) ∧ Below w0.heap.size w0 w'
def PrInv (B : Nat) (l : Lb.Bs) (w0 wr : World) : Prop := IsB B B l wr ∧ Below B w0 wr

set_option maxHeartbeats 6400000 in
set_option maxRecDepth 100000 in
theorem print_any (B : Nat) (o : Lb.Bs) (za : Option Addr) (zc : Nat) (l : List Cb.Rec) (w : World) (henv : EnvZ w) (hkd : KindsIn w) (hr : Recs B w (.slice za l.length zc) l) (hs : ∀ r ∈ l, r.data.length ≤ 1048576) :
    Calls Tryz.prog 19 #[zoneV o za l.length zc] w (PrEnd (Pn.print ⟨o, l⟩) w) := by
  have HZ := Lib.hid (fun W (hW : Below w.heap.size w W) => zcheck_any B o za zc l W (henv.later hW) (hr.later hW) hs)
  unfold ChkEnd zoneV at HZ
  unfold zoneV PrEnd Pn.print
  have HB := Lib.hid ((Below.refl _ w).alloc (Nat.le_refl _) (.cells #[.string ⟨o.toArray⟩, .slice za l.length zc] 24))
  have Hb1 := Lib.hid (blk_new w #[.string ⟨o.toArray⟩, .slice za l.length zc] 24)
  by_cases hq : Zn.checkZ ⟨o, l⟩ = 0
  · rw [if_neg (by simp [hq])]
    dsimp only
    rw [hq] at HZ
    have hok := Rn.checkZ_ok hq
    have hol : o.length ≤ 80 := hok.fit.len
    have hl60 : l.length ≤ 60 := hok.few
    have HOK := Lib.hid (fun r (h : r ∈ l) => hok.each h)
    have HR := Lib.hid hr
    have HK := Lib.hid hkd
    have HE := Lib.hid henv
    have HS := Lib.hid hs
    have hl60' : (l.length : Int) ≤ 60 := by omega
    have Hh1 := Lib.hid (show (⟨#[122, 111, 110, 101, 32]⟩ : ByteArray) ++ ⟨o.toArray⟩ ++ ⟨#[10]⟩ = ⟨(Pn.head o).toArray⟩ by unfold Pn.head; rw [← str_app, ← str_app])
    have hhl : (Pn.head o).length ≤ 86 := by unfold Pn.head; simp; omega
    have HKL := Lib.hid (show (0 : Nat) < w.heap.size from World.block_lt_of_cell? w _ (hkd 0 [] rfl))
    clear hr hkd henv hs hq hok
    go_enter Tryz.func19, Tryz.ntmps19
    go_wp2_with fail
    generalize w.alloc (.cells #[.string ⟨o.toArray⟩, .slice za l.length zc] 24) = w2 at *
    refine (HZ.out _ HB.out).mono ?_
    rintro e w3 ⟨rfl, hB3⟩
    have HB3 := Lib.hid (HB.out.trans (hB3.mono HB.out.size))
    have Hz3 := Lib.hid (Hb1.out.later hB3)
    have hz4 := Hz3.out.alloc (.cells #[.pointer none, .slice none 0 0] 82)
    have hc4 := fun j => Hz3.out.cell j
    have hlt4 := Hz3.out.lt
    have HI4 := Lib.hid (isB_fresh w3)
    have Hba := Lib.hid ((Below.refl _ w3).alloc (Nat.le_refl _) (.cells #[.pointer none, .slice none 0 0] 82))
    clear hB3 hz4 HZ
    go_wp2_with fail
    rw [Hh1.out]
    refine (write_any _ _ _ _ _ HI4.out (by simp; omega) Hba.out.size).mono ?_
    rintro e w5 ⟨v5, rfl, hI5, hB5, -⟩
    rw [List.nil_append] at hI5
    have HB5 := Lib.hid (Hba.out.trans hB5)
    have hz5 := Hz3.out.later HB5.out
    have hc5 := fun j => hz5.cell j
    have HI0 := Lib.hid (⟨hI5, HB5.out⟩ : PrInv w3.heap.size (Pn.head o) w3 w5)
    clear hI5 hB5 hz5 hc4
    go_wp2
    clear hc5
    go_loopw [21] (fun kv wr => ∃ (k : Nat), k ≤ l.length ∧ kv = .int .i64 k ∧ Hid (PrInv w3.heap.size (Pn.head o ++ (l.take k).flatMap Pn.line) w3 wr)) (fun kv _ => l.length - (intOf kv).toNat)
    case atStart => exact ⟨0, Nat.zero_le _, rfl, by rw [List.take_zero, List.flatMap_nil, List.append_nil]; exact HI0.out⟩
    case round =>
      obtain ⟨k, hk, rfl, HI⟩ := hrel
      have HBt := Lib.hid (HB3.out.trans (HI.out.2.mono HB3.out.size))
      by_cases hlt : k < l.length
      · obtain ⟨x, hx⟩ : ∃ x, l[k]? = some x := ⟨l[k], List.getElem?_eq_getElem hlt⟩
        have hxm := List.mem_of_getElem? hx
        obtain ⟨b, p, rfl, hb, c0, c1, c2, c3⟩ := recs_at (HR.out.later HBt.out) hx
        have hi0 : (0 : Int) ≤ (k : Int) := by omega
        have hi1 : (k : Int) < (l.length : Int) := by omega
        have hro := HOK.out x hxm
        have hline := Pn.line_len hro
        have hlong := Pn.long_len hro
        have hdl := HS.out x hxm
        have hkind := hro.kind
        have httl := hro.ttl
        have hnl := (Rn.under_iff.1 hro.in_).1.len
        have hpre : ((l.take k).flatMap Pn.line).length ≤ 1048686 * 60 := by
          have h1 := Pn.lines_len (o := o) (l := l.take k) (fun r hr => HOK.out r (List.mem_of_mem_take hr)) (fun r hr => HS.out r (List.mem_of_mem_take hr))
          have h2 : (l.take k).length ≤ 60 := by rw [List.length_take]; omega
          omega
        have hnext := Pn.line_next hx
        obtain ⟨kn, hkn⟩ : ∃ kn, Pn.kindB.getD x.kind.toNat [] = kn := ⟨_, rfl⟩
        have hkc : wr.cell? ⟨0, x.kind.toNat, none⟩ = some (.string ⟨kn.toArray⟩) := by
          refine (HK.out.later HBt.out) x.kind.toNat kn ?_
          rw [← hkn]
          have : x.kind.toNat < 6 := by omega
          show Pn.kindB[x.kind.toNat]? = some (Pn.kindB.getD x.kind.toNat [])
          rw [List.getD_eq_getElem?_getD, List.getElem?_eq_getElem (by simpa [Pn.kindB] using this)]
          rfl
        have hknl : kn.length ≤ 5 := by rw [← hkn]; exact Pn.kind_len _
        have hkk0 : (0 : Int) ≤ x.kind := by omega
        have hkk6 : x.kind < 6 := by omega
        have HIT := Lib.hid (fun W (hW : Below w.heap.size w W) => itoa_any x.ttl (by omega) (by omega) W (HE.out.later hW))
        have hitl := Lib.itoa_length_le x.ttl (by omega) (by omega)
        have hlg : Pn.long x = ((((((x.name ++ [32]) ++ Lib.itoa x.ttl) ++ [32]) ++ kn) ++ [32]) ++ x.data) := by unfold Pn.long; rw [hkn]
        obtain ⟨it, hit⟩ : ∃ it, Lib.itoa x.ttl = it := ⟨_, rfl⟩
        rw [hit] at HIT hitl hlg
        have hBr := (Below.refl _ wr).alloc (Nat.le_refl _) (.cells #[.string ⟨x.name.toArray⟩, .int .i64 x.kind, .int .i64 x.ttl, .string ⟨x.data.toArray⟩] 43)
        have HBr := Lib.hid hBr
        have hbr := blk_new wr #[.string ⟨x.name.toArray⟩, .int .i64 x.kind, .int .i64 x.ttl, .string ⟨x.data.toArray⟩] 43
        have HIr := Lib.hid (HI.out.1.later hBr)
        have Hbr := Lib.hid hbr
        have hkc2 := (hBr.cell (p := ⟨0, x.kind.toNat, none⟩) (World.block_lt_of_cell? wr _ hkc)).trans hkc
        have HLG := Lib.hid hlg
        have HNX := Lib.hid hnext
        have hlnd : Pn.line x = Lib.trimRightB (Pn.long x) 32 ++ [10] := rfl
        have HLN := Lib.hid hlnd
        clear hx hxm hro hnext hkn hit hlg hBr hbr hlnd
        obtain ⟨xn, xk, xt, xd⟩ := x
        dsimp only at *
        generalize hlx : Pn.line ⟨xn, xk, xt, xd⟩ = lx at *
        generalize hgx : Pn.long ⟨xn, xk, xt, xd⟩ = gx at *
        have HLX := Lib.hid hlx
        have HLL := Lib.hid (show (⟨xn.toArray⟩ : ByteArray) ++ ⟨#[32]⟩ ++ ⟨it.toArray⟩ ++ ⟨#[32]⟩ ++ ⟨kn.toArray⟩ ++ ⟨#[32]⟩ ++ ⟨xd.toArray⟩ = ⟨gx.toArray⟩ by rw [HLG.out, ← str_app, ← str_app, ← str_app, ← str_app, ← str_app, ← str_app])
        have HTR := Lib.hid (fun W => (show Calls Tryz.prog 46 #[.string ⟨gx.toArray⟩, .string ⟨#[32]⟩] W fun e w' => e = .returned (.string ⟨(Lib.trimRightB gx 32).toArray⟩) ∧ w' = W from Tryz.strings_TrimRight_one ⟨gx.toArray⟩ 32 (by decide) W (by rw [size_of]; omega)))
        have HLM := Lib.hid (show (⟨(Lib.trimRightB gx 32).toArray⟩ : ByteArray) ++ ⟨#[10]⟩ = ⟨lx.toArray⟩ by rw [HLN.out]; exact str_app _ [10])
        have htl := Pn.trim_len gx 32
        clear hlx hgx
        generalize Lib.trimRightB gx 32 = tx at *
        have q7 : ¬ (9223372036854775807 < List.length tx + 1) := by omega
        go_upto_region 9 with fail
        generalize wr.alloc (.cells #[.string ⟨xn.toArray⟩, .int .i64 xk, .int .i64 xt, .string ⟨xd.toArray⟩] 43) = w6 at *
        have hS1 : (fun W => W.cell? ⟨wr.heap.size, 0, none⟩ = some (.string ⟨xn.toArray⟩) ∧ W.cell? ⟨wr.heap.size, 1, none⟩ = some (.int .i64 xk) ∧ W.cell? ⟨wr.heap.size, 2, none⟩ = some (.int .i64 xt) ∧ W.cell? ⟨wr.heap.size, 3, none⟩ = some (.string ⟨xd.toArray⟩) ∧ W.cell? ⟨0, xk.toNat, none⟩ = some (.string ⟨kn.toArray⟩)) w6.drew := by
          refine ⟨?_, ?_, ?_, ?_, hkc2⟩
          · show w6.cell? _ = _; rw [Hbr.out.cell 0]; rfl
          · show w6.cell? _ = _; rw [Hbr.out.cell 1]; rfl
          · show w6.cell? _ = _; rw [Hbr.out.cell 2]; rfl
          · show w6.cell? _ = _; rw [Hbr.out.cell 3]; rfl
        have keep : ∀ {W : World}, Below w6.heap.size w6 W → (fun W => W.cell? ⟨wr.heap.size, 0, none⟩ = some (.string ⟨xn.toArray⟩) ∧ W.cell? ⟨wr.heap.size, 1, none⟩ = some (.int .i64 xk) ∧ W.cell? ⟨wr.heap.size, 2, none⟩ = some (.int .i64 xt) ∧ W.cell? ⟨wr.heap.size, 3, none⟩ = some (.string ⟨xd.toArray⟩) ∧ W.cell? ⟨0, xk.toNat, none⟩ = some (.string ⟨kn.toArray⟩)) W := by
          intro W hB
          obtain ⟨h1, h2, h3, h4, h5⟩ := hS1
          exact ⟨(hB.cell (World.block_lt_of_cell? w6 _ h1)).trans h1, (hB.cell (World.block_lt_of_cell? w6 _ h2)).trans h2, (hB.cell (World.block_lt_of_cell? w6 _ h3)).trans h3, (hB.cell (World.block_lt_of_cell? w6 _ h4)).trans h4, (hB.cell (World.block_lt_of_cell? w6 _ h5)).trans h5⟩
        clear c0 c1 c2 c3 hkc hkc2
        have q1 : ¬ (9223372036854775807 < List.length xn + 1) := by omega
        have q2 : ¬ (9223372036854775807 < List.length xn + 1 + List.length it) := by omega
        have q3 : ¬ (9223372036854775807 < List.length xn + 1 + List.length it + 1) := by omega
        have q4 : ¬ (9223372036854775807 < List.length xn + 1 + List.length it + 1 + List.length kn) := by omega
        have q5 : ¬ (9223372036854775807 < List.length xn + 1 + List.length it + 1 + List.length kn + 1) := by omega
        have q6 : ¬ (9223372036854775807 < List.length xn + 1 + List.length it + 1 + List.length kn + 1 + List.length xd) := by omega
        refine wp_region_due [0, 1, 2, 3, 4, 5, 6, 7, 8, 9, 10, 11, 12, 13, 14, 15, 16, 17, 18, 19] (fun W => W.cell? ⟨wr.heap.size, 0, none⟩ = some (.string ⟨xn.toArray⟩) ∧ W.cell? ⟨wr.heap.size, 1, none⟩ = some (.int .i64 xk) ∧ W.cell? ⟨wr.heap.size, 2, none⟩ = some (.int .i64 xt) ∧ W.cell? ⟨wr.heap.size, 3, none⟩ = some (.string ⟨xd.toArray⟩) ∧ W.cell? ⟨0, xk.toNat, none⟩ = some (.string ⟨kn.toArray⟩)) (by kernel_rfl) ?_
        refine wpDue_take (i := 0) (v := ?_) rfl (by kernel_rfl) (by kernel_rfl) (by kernel_rfl) (by kernel_rfl) (fun _ _ _ h => h) hS1 (.inl ⟨by rfl, ?_⟩) ?_
        rotate_left
        · intro W hW; (try dsimp only at hW); go_simp; try with_reducible rfl
        try simp only [Act.put]
        try simp only [List.setIfInBounds_toArray]
        try simp only [List.set_cons_succ]
        try simp only [List.set_cons_zero]
        refine wpDue_take (i := 1) (v := ?_) rfl (by kernel_rfl) (by kernel_rfl) (by kernel_rfl) (by kernel_rfl) (fun _ _ _ h => h) hS1 (.inl ⟨by rfl, ?_⟩) ?_
        rotate_left
        · intro W hW; (try dsimp only at hW); go_simp; try with_reducible rfl
        try simp only [Act.put]
        try simp only [List.setIfInBounds_toArray]
        try simp only [List.set_cons_succ]
        try simp only [List.set_cons_zero]
        refine wpDue_take (i := 2) (v := ?_) rfl (by kernel_rfl) (by kernel_rfl) (by kernel_rfl) (by kernel_rfl) (fun _ _ _ h => h) hS1 (.inl ⟨by rfl, ?_⟩) ?_
        rotate_left
        · intro W hW; (try dsimp only at hW); go_simp; try with_reducible rfl
        try simp only [Act.put]
        try simp only [List.setIfInBounds_toArray]
        try simp only [List.set_cons_succ]
        try simp only [List.set_cons_zero]
        refine wpDue_take (i := 3) (v := ?_) rfl (by kernel_rfl) (by kernel_rfl) (by kernel_rfl) (by kernel_rfl) (fun _ _ _ h => h) hS1 (.inl ⟨by rfl, ?_⟩) ?_
        rotate_left
        · intro W hW; (try dsimp only at hW); go_simp; try with_reducible rfl
        try simp only [Act.put]
        try simp only [List.setIfInBounds_toArray]
        try simp only [List.set_cons_succ]
        try simp only [List.set_cons_zero]
        refine wpDue_take (i := 4) (v := ?_) rfl (by kernel_rfl) (by kernel_rfl) (by kernel_rfl) (by kernel_rfl) (fun _ _ _ h => h) hS1 (.inl ⟨by rfl, ?_⟩) ?_
        rotate_left
        · intro W hW; (try dsimp only at hW); go_simp; try with_reducible rfl
        try simp only [Act.put]
        try simp only [List.setIfInBounds_toArray]
        try simp only [List.set_cons_succ]
        try simp only [List.set_cons_zero]
        refine wpDue_take (i := 8) (v := ?_) rfl (by kernel_rfl) (by kernel_rfl) (by kernel_rfl) (by kernel_rfl) (fun _ _ _ h => h) hS1 (.inl ⟨by rfl, ?_⟩) ?_
        rotate_left
        · intro W hW; (try dsimp only at hW); go_simp; try with_reducible rfl
        try simp only [Act.put]
        try simp only [List.setIfInBounds_toArray]
        try simp only [List.set_cons_succ]
        try simp only [List.set_cons_zero]
        refine wpDue_take (i := 9) (v := ?_) rfl (by kernel_rfl) (by kernel_rfl) (by kernel_rfl) (by kernel_rfl) (fun _ _ _ h => h) hS1 (.inl ⟨by rfl, ?_⟩) ?_
        rotate_left
        · intro W hW; (try dsimp only at hW); go_simp; try with_reducible rfl
        try simp only [Act.put]
        try simp only [List.setIfInBounds_toArray]
        try simp only [List.set_cons_succ]
        try simp only [List.set_cons_zero]
        refine wpDue_take (i := 10) (v := ?_) rfl (by kernel_rfl) (by kernel_rfl) (by kernel_rfl) (by kernel_rfl) (fun _ _ _ h => h) hS1 (.inl ⟨by rfl, ?_⟩) ?_
        rotate_left
        · intro W hW; (try dsimp only at hW); go_simp; try with_reducible rfl
        try simp only [Act.put]
        try simp only [List.setIfInBounds_toArray]
        try simp only [List.set_cons_succ]
        try simp only [List.set_cons_zero]
        refine wpDue_take (i := 11) (v := ?_) rfl (by kernel_rfl) (by kernel_rfl) (by kernel_rfl) (by kernel_rfl) (fun _ _ _ h => h) hS1 (.inl ⟨by rfl, ?_⟩) ?_
        rotate_left
        · intro W hW; (try dsimp only at hW); go_simp; try with_reducible rfl
        try simp only [Act.put]
        try simp only [List.setIfInBounds_toArray]
        try simp only [List.set_cons_succ]
        try simp only [List.set_cons_zero]
        refine wpDue_take (i := 14) (v := ?_) rfl (by kernel_rfl) (by kernel_rfl) (by kernel_rfl) (by kernel_rfl) (fun _ _ _ h => h) hS1 (.inl ⟨by rfl, ?_⟩) ?_
        rotate_left
        · intro W hW; (try dsimp only at hW); go_simp; try with_reducible rfl
        try simp only [Act.put]
        try simp only [List.setIfInBounds_toArray]
        try simp only [List.set_cons_succ]
        try simp only [List.set_cons_zero]
        refine wpDue_take (i := 15) (v := ?_) rfl (by kernel_rfl) (by kernel_rfl) (by kernel_rfl) (by kernel_rfl) (fun _ _ _ h => h) hS1 (.inl ⟨by rfl, ?_⟩) ?_
        rotate_left
        · intro W hW; (try dsimp only at hW); go_simp; try with_reducible rfl
        try simp only [Act.put]
        try simp only [List.setIfInBounds_toArray]
        try simp only [List.set_cons_succ]
        try simp only [List.set_cons_zero]
        refine wpDue_one (i := 5) (by kernel_rfl) rfl (fun K hK => ?_)
        have HK := Lib.hid hK
        clear hK
        go_simp
        refine (HIT.out _ (HBt.out.trans ((HBr.out.drew).mono HBt.out.size))).mono ?_
        rintro e w7 ⟨rfl, hB7⟩
        have HB7 := Lib.hid (show Below w6.heap.size w6 w7 from (Below.refl _ w6).drew.trans hB7)
        have hS7 := keep (show Below w6.heap.size w6 w7 from HB7.out)
        clear hB7
        refine HK.out _ _ (fun _ => hS7) ?_
        clear HK K
        try simp only [Act.put]
        try simp only [List.setIfInBounds_toArray]
        try simp only [List.set_cons_succ]
        try simp only [List.set_cons_zero]
        refine wpDue_take (i := 6) (v := ?_) rfl (by kernel_rfl) (by kernel_rfl) (by kernel_rfl) (by kernel_rfl) (fun _ _ _ h => h) hS7 (.inl ⟨by rfl, ?_⟩) ?_
        rotate_left
        · intro W hW; (try dsimp only at hW); go_simp; try with_reducible rfl
        try simp only [Act.put]
        try simp only [List.setIfInBounds_toArray]
        try simp only [List.set_cons_succ]
        try simp only [List.set_cons_zero]
        refine wpDue_take (i := 7) (v := ?_) rfl (by kernel_rfl) (by kernel_rfl) (by kernel_rfl) (by kernel_rfl) (fun _ _ _ h => h) hS7 (.inl ⟨by rfl, ?_⟩) ?_
        rotate_left
        · intro W hW; (try dsimp only at hW); go_simp; try with_reducible rfl
        try simp only [Act.put]
        try simp only [List.setIfInBounds_toArray]
        try simp only [List.set_cons_succ]
        try simp only [List.set_cons_zero]
        refine wpDue_take (i := 12) (v := ?_) rfl (by kernel_rfl) (by kernel_rfl) (by kernel_rfl) (by kernel_rfl) (fun _ _ _ h => h) hS7 (.inl ⟨by rfl, ?_⟩) ?_
        rotate_left
        · intro W hW; (try dsimp only at hW); go_simp; try with_reducible rfl
        try simp only [Act.put]
        try simp only [List.setIfInBounds_toArray]
        try simp only [List.set_cons_succ]
        try simp only [List.set_cons_zero]
        refine wpDue_take (i := 13) (v := ?_) rfl (by kernel_rfl) (by kernel_rfl) (by kernel_rfl) (by kernel_rfl) (fun _ _ _ h => h) hS7 (.inl ⟨by rfl, ?_⟩) ?_
        rotate_left
        · intro W hW; (try dsimp only at hW); go_simp; try with_reducible rfl
        try simp only [Act.put]
        try simp only [List.setIfInBounds_toArray]
        try simp only [List.set_cons_succ]
        try simp only [List.set_cons_zero]
        refine wpDue_take (i := 16) (v := ?_) rfl (by kernel_rfl) (by kernel_rfl) (by kernel_rfl) (by kernel_rfl) (fun _ _ _ h => h) hS7 (.inl ⟨by rfl, ?_⟩) ?_
        rotate_left
        · intro W hW; (try dsimp only at hW); go_simp; try with_reducible rfl
        try simp only [Act.put]
        try simp only [List.setIfInBounds_toArray]
        try simp only [List.set_cons_succ]
        try simp only [List.set_cons_zero]
        refine wpDue_one (i := 17) (by kernel_rfl) rfl (fun K hK => ?_)
        have HK := Lib.hid hK
        clear hK
        go_simp
        rw [HLL.out]
        refine (HTR.out w7).mono ?_
        rintro e w8 ⟨rfl, rfl⟩
        refine HK.out _ _ (fun _ => hS7) ?_
        clear HK K
        try simp only [Act.put]
        try simp only [List.setIfInBounds_toArray]
        try simp only [List.set_cons_succ]
        try simp only [List.set_cons_zero]
        refine wpDue_take (i := 18) (v := ?_) rfl (by kernel_rfl) (by kernel_rfl) (by kernel_rfl) (by kernel_rfl) (fun _ _ _ h => h) hS7 (.inl ⟨by rfl, ?_⟩) ?_
        rotate_left
        · intro W hW; (try dsimp only at hW); go_simp; try with_reducible rfl
        try simp only [Act.put]
        try simp only [List.setIfInBounds_toArray]
        try simp only [List.set_cons_succ]
        try simp only [List.set_cons_zero]
        refine wpDue_one (i := 19) (by kernel_rfl) rfl (fun K hK => ?_)
        have HK := Lib.hid hK
        clear hK
        go_simp
        rw [HLM.out]
        refine (write_any _ _ _ _ w8 (HIr.out.later HB7.out) (by rw [List.length_append]; omega) (Nat.le_trans HI.out.2.size (Nat.le_trans (by simpa using HBr.out.size) HB7.out.size))).mono ?_
        rintro e w9 ⟨v9, rfl, hI9, hB9, hK9⟩
        have hlw := IsB.lt HI.out.1
        have hblk : Blk w9 wr.heap.size #[.string ⟨xn.toArray⟩, .int .i64 xk, .int .i64 xt, .string ⟨xd.toArray⟩] 43 :=
          hK9 _ _ (Hbr.out.later HB7.out) (by simp; omega) (fun c fz e => by injection e with _ e; exact absurd e (by decide))
        have h38 : w3.heap.size ≤ wr.heap.size := HI.out.2.size
        have h36 : w3.heap.size ≤ w6.heap.size := Nat.le_trans h38 HBr.out.size
        have hS9 : (fun W => W.cell? ⟨wr.heap.size, 0, none⟩ = some (.string ⟨xn.toArray⟩) ∧ W.cell? ⟨wr.heap.size, 1, none⟩ = some (.int .i64 xk) ∧ W.cell? ⟨wr.heap.size, 2, none⟩ = some (.int .i64 xt) ∧ W.cell? ⟨wr.heap.size, 3, none⟩ = some (.string ⟨xd.toArray⟩) ∧ W.cell? ⟨0, xk.toNat, none⟩ = some (.string ⟨kn.toArray⟩)) w9 := by
          refine ⟨?_, ?_, ?_, ?_, ?_⟩
          · show w9.cell? _ = _; rw [hblk.cell 0]; rfl
          · show w9.cell? _ = _; rw [hblk.cell 1]; rfl
          · show w9.cell? _ = _; rw [hblk.cell 2]; rfl
          · show w9.cell? _ = _; rw [hblk.cell 3]; rfl
          · exact (hB9.cell (p := ⟨0, xk.toNat, none⟩) (Nat.lt_of_lt_of_le HKL.out HB3.out.size)).trans hS7.2.2.2.2
        have hinv : PrInv w3.heap.size (Pn.head o ++ (l.take (k + 1)).flatMap Pn.line) w3 w9 := by
          refine ⟨?_, HI.out.2.trans ((HBr.out.mono h38).trans ((HB7.out.mono h36).trans hB9))⟩
          rw [HNX.out, ← List.append_assoc]
          exact hI9
        have Hinv := Lib.hid hinv
        clear hblk hI9 hB9 hK9 hinv
        refine HK.out _ _ (fun _ => hS9) ?_
        clear HK K
        try simp only [Act.put]
        try simp only [List.setIfInBounds_toArray]
        try simp only [List.set_cons_succ]
        try simp only [List.set_cons_zero]
        refine wpDue_done (by kernel_rfl) ?_ _
        clear hS9 hS7 hS1
        go_wp2
        refine ⟨⟨k + 1, by omega, by go_num, Hinv.out⟩, by simp [intOf]; omega⟩
      · obtain rfl : k = l.length := by omega
        rw [List.take_length] at HI
        have HBS := Lib.hid (bstring_any _ _ _ wr HI.out.1 HI.out.2.size)
        go_wp2_with fail
        refine HBS.out.mono ?_
        rintro e w6 ⟨rfl, hB6⟩
        have HB6 := Lib.hid (HBt.out.trans (hB6.mono HB3.out.size))
        clear hB6
        go_wp2
        go_ret2
        exact ⟨rfl, HB6.out⟩
  · rw [if_pos hq]
    generalize Zn.checkZ ⟨o, l⟩ = q at *
    have hqb : (q == 0) = false := beq_eq_false_iff_ne.2 hq
    have hqb2 : (q != 0) = true := by rw [bne, hqb]; rfl
    clear hr hkd henv hs hq
    go_enter Tryz.func19, Tryz.ntmps19
    go_wp2_with fail
    generalize w.alloc (.cells #[.string ⟨o.toArray⟩, .slice za l.length zc] 24) = w2 at *
    refine (HZ.out _ HB.out).mono ?_
    rintro e w3 ⟨rfl, hB3⟩
    have HB3 := Lib.hid (HB.out.trans (hB3.mono HB.out.size))
    clear hB3
    go_wp2
    go_ret2
    exact ⟨rfl, HB3.out⟩
end Go.Proofs.YtajllcbjgndcpaaGreatDoor
