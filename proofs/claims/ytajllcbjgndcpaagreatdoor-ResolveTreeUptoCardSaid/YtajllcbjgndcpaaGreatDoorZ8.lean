/- WALKS: Cut. -/
import Derived.Test.YtajllcbjgndcpaaGreatDoorZ7
namespace Go.Proofs.YtajllcbjgndcpaaGreatDoor
open Go.RowKit Go.Maps

def cutV (acc : Option Lb.Bs) : Value × Value := (.string ⟨(acc.getD []).toArray⟩, .bool acc.isSome)
def CutInv (o name : Lb.Bs) (l : List Cb.Rec) (w0 : World) (k : Nat) (acc : Option Lb.Bs) (wr : World) : Prop := (l.take k).foldl (Zn.cutStep o name) none = acc ∧ Below w0.heap.size w0 wr
def CutEnd (z : Zn.Zone) (name : Lb.Bs) (w0 : World) (e : Ending) (w' : World) : Prop := e = .returned (.tuple #[.string ⟨((Zn.cutF z name).getD []).toArray⟩, .bool (Zn.cutF z name).isSome]) ∧ Below w0.heap.size w0 w'
theorem under_checks {n o : Lb.Bs} (h : Zn.under n o = true) : Lb.check n = 0 ∧ Lb.check o = 0 := by
  unfold Zn.under at h
  simp only [Bool.and_eq_true, decide_eq_true_eq] at h
  exact h.1
theorem fold_next {α β : Type} (f : β → α → β) (b : β) {l : List α} {k : Nat} {x : α} (h : l[k]? = some x) : (l.take (k + 1)).foldl f b = f ((l.take k).foldl f b) x := by
  rw [List.take_add_one, h, List.foldl_append]; rfl

set_option maxHeartbeats 6400000 in
set_option maxRecDepth 100000 in
theorem cut_any (B : Nat) (o : Lb.Bs) (za : Option Addr) (zc : Nat) (l : List Cb.Rec) (s : ByteArray) (w : World) (henv : Env w) (hr : Recs B w (.slice za l.length zc) l) : Calls Tryz.prog 17 #[zoneV o za l.length zc, .string s] w (CutEnd ⟨o, l⟩ s.data.toList w) := by
  unfold zoneV
  have hBa : Below w.heap.size w (w.alloc (.cells #[.string ⟨o.toArray⟩, .slice za l.length zc] 24)) := (Below.refl _ w).alloc (Nat.le_refl _) _
  have hb1 := heap_alloc_new w (.cells #[.string ⟨o.toArray⟩, .slice za l.length zc] 24)
  have HBa := Lib.hid hBa
  have Hb1 := Lib.hid hb1
  have HR := Lib.hid (hr.later hBa)
  have hlen : l.length ≤ 9223372036854775807 := by have := (recs_cap hr).2; unfold maxLen at this; omega
  clear hBa hb1 hr
  go_enter Tryz.func17, Tryz.ntmps17
  go_wp2
  generalize w.alloc (.cells #[.string ⟨o.toArray⟩, .slice za l.length zc] 24) = w1 at *
  go_loopw [6, 7, 15] (fun fv iv kv wr => ∃ (k : Nat) (acc : Option Lb.Bs), k ≤ l.length ∧ kv = .int .i64 k ∧ fv = (cutV acc).1 ∧ iv = (cutV acc).2 ∧ Hid (CutInv o s.data.toList l w1 k acc wr)) (fun _ _ kv _ => l.length - (intOf kv).toNat)
  case atStart => exact ⟨0, none, Nat.zero_le _, rfl, rfl, rfl, ⟨rfl, Below.refl _ _⟩⟩
  case round =>
    obtain ⟨k, acc, hk, rfl, rfl, rfl, HI⟩ := hrel
    unfold cutV
    dsimp only
    by_cases hlt : k < l.length
    · obtain ⟨r, hx⟩ : ∃ r, l[k]? = some r := ⟨l[k], List.getElem?_eq_getElem hlt⟩
      obtain ⟨b, p, rfl, hb, c0, c1, c2, c3⟩ := recs_at (HR.out.later HI.out.2) hx
      have hi0 : (0 : Int) ≤ (k : Int) := by omega
      have hi1 : (k : Int) < (l.length : Int) := by omega
      have hfold := fold_next (Zn.cutStep o s.data.toList) none hx
      rw [HI.out.1] at hfold
      have hzb := (HI.out.2.block _ (Array.getElem?_eq_some_iff.1 Hb1.out).1).trans Hb1.out
      have hz0 : wr.cell? ⟨w.heap.size, 0, none⟩ = some (.string ⟨o.toArray⟩) := by rw [cell_of_row wr _ 0 _ _ _ hzb]; rfl
      have hBr := (Below.refl wr.heap.size wr).alloc (Nat.le_refl _) (.cells #[.string ⟨r.name.toArray⟩, .int .i64 r.kind, .int .i64 r.ttl, .string ⟨r.data.toArray⟩] 43)
      have henv2 : Env (wr.alloc (.cells #[.string ⟨r.name.toArray⟩, .int .i64 r.kind, .int .i64 r.ttl, .string ⟨r.data.toArray⟩] 43)) := henv.later ((HBa.out.trans (HI.out.2.mono HBa.out.size)).trans (hBr.mono (Nat.le_trans HBa.out.size HI.out.2.size)))
      have hU : Calls Tryz.prog 30 #[.string s, .string ⟨r.name.toArray⟩] (wr.alloc (.cells #[.string ⟨r.name.toArray⟩, .int .i64 r.kind, .int .i64 r.ttl, .string ⟨r.data.toArray⟩] 43)) (UndEnd s.data.toList r.name _) := under_all s ⟨r.name.toArray⟩ _ henv2
      unfold UndEnd at hU
      have HU := Lib.hid hU
      have HBr := Lib.hid (HI.out.2.trans (hBr.mono HI.out.2.size))
      have hlw : w.heap.size < wr.heap.size := (Array.getElem?_eq_some_iff.1 hzb).1
      have Hzb := Lib.hid hzb
      have Hfold := Lib.hid hfold
      clear hx hfold hzb hBr hU henv2
      obtain ⟨nm, kd, ttl, dt⟩ := r
      dsimp only at *
      cases hu : Zn.under s.data.toList nm with
      | false =>
        have hst : Zn.cutStep o s.data.toList acc ⟨nm, kd, ttl, dt⟩ = acc := by
          unfold Zn.cutStep
          rw [if_neg (fun e => by rw [hu] at e; cases e.1)]
        rw [hu] at HU
        rw [hst] at Hfold
        clear hu
        go_wp2_with fail
        refine HU.out.mono ?_
        rintro e w2 ⟨q, rfl, hq, hB2⟩
        have hBt := HBr.out.trans (hB2.mono (Nat.le_trans HI.out.2.size (by simp)))
        have hxb := (hB2.block wr.heap.size (by simp)).trans (heap_alloc_new wr _)
        have hzb2 := (hB2.block _ (by simp; omega)).trans ((Below.heap_alloc wr (.cells #[.string ⟨nm.toArray⟩, .int .i64 kd, .int .i64 ttl, .string ⟨dt.toArray⟩] 43) _ hlw).trans Hzb.out)
        have hc1 := fun j => cell_of_row w2 wr.heap.size j _ _ _ hxb
        have hc2 := fun j => cell_of_row w2 w.heap.size j _ _ _ hzb2
        have Hinv : Hid (CutInv o s.data.toList l w1 (k + 1) acc w2) := ⟨Hfold.out, hBt⟩
        clear hBt hq hxb hzb2 hB2 hst c0 c1 c2 c3
        go_wp2
        all_goals refine ⟨⟨k + 1, acc, by omega, by go_num, rfl, rfl, Hinv.out⟩, by simp [intOf]; omega⟩
      | true =>
        have hck := under_checks hu
        rw [hu] at HU
        by_cases hgo : kd = 3 ∧ nm ≠ o ∧ Zn.shorter nm acc = true
        · have hst : Zn.cutStep o s.data.toList acc ⟨nm, kd, ttl, dt⟩ = some nm := by
            unfold Zn.cutStep
            rw [if_pos ⟨hu, hgo⟩]
          rw [hst] at Hfold
          obtain ⟨hk3, hne, hsh⟩ := hgo
          have hkb : (kd == 3) = true := by rw [beq_iff_eq]; exact hk3
          have hnb : (nm == o) = false := beq_eq_false_iff_ne.2 hne
          have hnb2 : (nm != o) = true := by rw [bne, hnb]; rfl
          clear hu hst hne hk3
          go_wp2_with fail
          refine HU.out.mono ?_
          rintro e w2 ⟨q, rfl, hq, hB2⟩
          have hBt := HBr.out.trans (hB2.mono (Nat.le_trans HI.out.2.size (by simp)))
          have hxb := (hB2.block wr.heap.size (by simp)).trans (heap_alloc_new wr _)
          have hzb2 := (hB2.block _ (by simp; omega)).trans ((Below.heap_alloc wr (.cells #[.string ⟨nm.toArray⟩, .int .i64 kd, .int .i64 ttl, .string ⟨dt.toArray⟩] 43) _ hlw).trans Hzb.out)
          have hc1 := fun j => cell_of_row w2 wr.heap.size j _ _ _ hxb
          have hc2 := fun j => cell_of_row w2 w.heap.size j _ _ _ hzb2
          obtain rfl : q = 0 := hq.2 hck
          have Hinv : Hid (CutInv o s.data.toList l w1 (k + 1) (some nm) w2) := ⟨Hfold.out, hBt⟩
          clear hBt hq hxb hzb2 hB2 hck c0 c1 c2 c3
          cases acc with
          | none =>
            dsimp only [Option.isSome_none, Option.getD_none]
            go_wp2
            refine ⟨⟨k + 1, some nm, by omega, by go_num, rfl, rfl, Hinv.out⟩, by simp [intOf]; omega⟩
          | some f =>
            have hlt2 : nm.length < f.length := by simpa [Zn.shorter] using hsh
            have hl1 : (nm.length : Int) < (f.length : Int) := by omega
            have hl2 : ((⟨nm.toArray⟩ : ByteArray).size : Int) < ((⟨f.toArray⟩ : ByteArray).size : Int) := by rw [size_of, size_of]; omega
            dsimp only [Option.isSome_some, Option.getD_some]
            clear hsh hlt2
            go_wp2
            refine ⟨⟨k + 1, some nm, by omega, by go_num, rfl, rfl, Hinv.out⟩, by simp [intOf]; omega⟩
        · have hst : Zn.cutStep o s.data.toList acc ⟨nm, kd, ttl, dt⟩ = acc := by
            unfold Zn.cutStep
            rw [if_neg (fun e => hgo e.2)]
          rw [hst] at Hfold
          clear hu hst
          go_wp2_with fail
          refine HU.out.mono ?_
          rintro e w2 ⟨q, rfl, hq, hB2⟩
          have hBt := HBr.out.trans (hB2.mono (Nat.le_trans HI.out.2.size (by simp)))
          have hxb := (hB2.block wr.heap.size (by simp)).trans (heap_alloc_new wr _)
          have hzb2 := (hB2.block _ (by simp; omega)).trans ((Below.heap_alloc wr (.cells #[.string ⟨nm.toArray⟩, .int .i64 kd, .int .i64 ttl, .string ⟨dt.toArray⟩] 43) _ hlw).trans Hzb.out)
          have hc1 := fun j => cell_of_row w2 wr.heap.size j _ _ _ hxb
          have hc2 := fun j => cell_of_row w2 w.heap.size j _ _ _ hzb2
          obtain rfl : q = 0 := hq.2 hck
          have Hinv : Hid (CutInv o s.data.toList l w1 (k + 1) acc w2) := ⟨Hfold.out, hBt⟩
          clear hBt hq hxb hzb2 hB2 hck c0 c1 c2 c3
          by_cases hk3 : kd = 3
          · have hkb : (kd == 3) = true := by rw [beq_iff_eq]; exact hk3
            by_cases hno : nm = o
            · subst hno
              clear hgo hk3
              go_wp2
              refine ⟨⟨k + 1, acc, by omega, by go_num, rfl, rfl, Hinv.out⟩, by simp [intOf]; omega⟩
            · have hnb : (nm == o) = false := beq_eq_false_iff_ne.2 hno
              have hnb2 : (nm != o) = true := by rw [bne, hnb]; rfl
              have hsh : Zn.shorter nm acc = false := by
                cases hs : Zn.shorter nm acc with
                | false => rfl
                | true => exact absurd ⟨hk3, hno, hs⟩ hgo
              clear hgo hk3 hno
              cases acc with
              | none => cases hsh
              | some f =>
                have hlt2 : ¬ nm.length < f.length := by simpa [Zn.shorter] using hsh
                have hl1 : (f.length : Int) ≤ (nm.length : Int) := by omega
                have hl2 : ((⟨f.toArray⟩ : ByteArray).size : Int) ≤ ((⟨nm.toArray⟩ : ByteArray).size : Int) := by rw [size_of, size_of]; omega
                dsimp only [Option.isSome_some, Option.getD_some]
                clear hsh hlt2
                go_wp2
                refine ⟨⟨k + 1, some f, by omega, by go_num, rfl, rfl, Hinv.out⟩, by simp [intOf]; omega⟩
          · have hkb : (kd == 3) = false := beq_eq_false_iff_ne.2 hk3
            clear hgo hk3
            go_wp2
            refine ⟨⟨k + 1, acc, by omega, by go_num, rfl, rfl, Hinv.out⟩, by simp [intOf]; omega⟩
    · obtain rfl : k = l.length := by omega
      have hf : Zn.cutF ⟨o, l⟩ s.data.toList = acc := by
        have := HI.out.1
        rw [List.take_length] at this
        exact this
      have Hf := Lib.hid hf
      have HBe := Lib.hid (HBa.out.trans (HI.out.2.mono HBa.out.size))
      clear hf
      go_wp2
      go_ret2
      exact ⟨by rw [Hf.out]; rfl, HBe.out⟩
end Go.Proofs.YtajllcbjgndcpaaGreatDoor
