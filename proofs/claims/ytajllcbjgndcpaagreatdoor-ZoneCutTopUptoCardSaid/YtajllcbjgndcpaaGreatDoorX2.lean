/- WALKS: zoneFact, ZoneCutTop. -/
import Derived.Test.YtajllcbjgndcpaaGreatDoorX1
import Derived.Test.YtajllcbjgndcpaaGreatDoorY7
namespace Go.Proofs.YtajllcbjgndcpaaGreatDoor
open Go.RowKit Go.Maps

def zfactL : List Cb.Rec := [⟨[98, 46], 5, 9, [53]⟩, ⟨[97, 46, 98, 46], 1, 7, [49, 48, 46, 48, 46, 48, 46, 49]⟩]
theorem zfact_print : Pn.print ⟨[98, 46], zfactL⟩ = ([122, 111, 110, 101, 32, 98, 46, 10, 98, 46, 32, 57, 32, 115, 116, 97, 114, 116, 32, 53, 10, 97, 46, 98, 46, 32, 55, 32, 97, 100, 100, 114, 32, 49, 48, 46, 48, 46, 48, 46, 49, 10], 0) := by decide +kernel

set_option maxHeartbeats 3200000 in
set_option maxRecDepth 100000 in
theorem zoneFact_any (w : World) (henv : EnvZ w) (hkd : KindsIn w) : Calls Tryz.prog 16 #[] w (TrueEnd w) := by
  have hb : Blk (w.alloc (.cells (zfactL.flatMap recV).toArray 43)) w.heap.size (zfactL.flatMap recV).toArray 43 := blk_new w _ _
  have hB1 := (Below.refl _ w).alloc (Nat.le_refl _) (.cells (zfactL.flatMap recV).toArray 43)
  have hB2 := hB1.alloc (by simp) (.cells #[.string ⟨#[98, 46]⟩, .slice (some ⟨w.heap.size, 0, none⟩) 2 2] 24)
  have hA := print_any 0 [98, 46] (some ⟨w.heap.size, 0, none⟩) 2 zfactL _ (henv.later hB2) (hkd.later hB2) (recs_block (hb.alloc (.cells #[.string ⟨#[98, 46]⟩, .slice (some ⟨w.heap.size, 0, none⟩) 2 2] 24)) (by decide)) (by intro r hr; simp [zfactL] at hr; rcases hr with rfl | rfl <;> simp)
  rw [zfact_print] at hA
  unfold PrEnd zoneV at hA
  have e8 : (zfactL.flatMap recV).toArray = #[.string ⟨#[98, 46]⟩, .int .i64 5, .int .i64 9, .string ⟨#[53]⟩, .string ⟨#[97, 46, 98, 46]⟩, .int .i64 1, .int .i64 7, .string ⟨#[49, 48, 46, 48, 46, 48, 46, 49]⟩] := rfl
  rw [e8] at hA hB2
  have HA := Lib.hid hA
  have HB2 := Lib.hid hB2
  clear hb hB1 hB2 hA e8
  go_enter Tryz.func16, Tryz.ntmps16
  go_wp2_with fail
  refine HA.out.mono ?_
  rintro e w3 ⟨rfl, hB3⟩
  have HB3 := Lib.hid (HB2.out.trans (hB3.mono HB2.out.size))
  clear hB3 HA HB2
  go_wp2
  go_ret
  exact true_ret (by simp) HB3.out

set_option maxHeartbeats 6400000 in
set_option maxRecDepth 100000 in
theorem zoneCutTop_any (B : Nat) (o : Lb.Bs) (za : Option Addr) (zc : Nat) (l : List Cb.Rec) (s : ByteArray) (w : World) (henv : EnvZ w) (hkd : KindsIn w) (hr : Recs B w (.slice za l.length zc) l) (hs : ∀ r ∈ l, r.data.length ≤ 1048576) :
    Calls Tryz.prog 3 #[zoneV o za l.length zc, .string s] w (TrueEnd w) := by
  rw [str_is s]
  generalize s.data.toList = nm
  have HZ := Lib.hid (fun W (hW : Below w.heap.size w W) => zcheck_any B o za zc l W (henv.later hW) (hr.later hW) hs)
  have HC := Lib.hid (fun W (hW : Below w.heap.size w W) => (show Calls Tryz.prog 15 #[.string ⟨nm.toArray⟩] W fun e w' => e = .returned (.int .i64 (Lb.check nm)) ∧ Below _ _ w' from check_any ⟨nm.toArray⟩ _ (henv.later hW).env))
  have HF := Lib.hid (fun W (hW : Below w.heap.size w W) => zoneFact_any W (henv.later hW) (hkd.later hW))
  have HCU := Lib.hid (fun (n : Lb.Bs) W (hW : Below w.heap.size w W) => (show Calls Tryz.prog 17 #[zoneV o za l.length zc, .string ⟨n.toArray⟩] W (CutEnd ⟨o, l⟩ n W) from cut_any B o za zc l ⟨n.toArray⟩ W (henv.later hW).env (hr.later hW)))
  unfold ChkEnd zoneV at HZ
  unfold TrueEnd at HF
  unfold CutEnd zoneV at HCU
  unfold zoneV
  have HB := Lib.hid ((Below.refl _ w).alloc (Nat.le_refl _) (.cells #[.string ⟨o.toArray⟩, .slice za l.length zc] 24))
  have Hb1 := Lib.hid (blk_new w #[.string ⟨o.toArray⟩, .slice za l.length zc] 24)
  by_cases hq : Zn.checkZ ⟨o, l⟩ = 0
  · have hok := Rn.checkZ_ok hq
    rw [hq] at HZ
    by_cases hn : Lb.check nm = 0
    · have hfit := Lb.check_fit.1 hn
      rw [hn] at HC
      cases hsp : Lb.split nm with
      | nil =>
        have hcut := Rn.cutTop_root hok hfit hsp
        have HPR := Lib.hid (fun W (hW : Below w.heap.size w W) => (show Calls Tryz.prog 18 #[.string ⟨nm.toArray⟩] W fun e w' => e = .returned (.tuple #[.string ⟨#[]⟩, .int .i64 4]) ∧ Below W.heap.size W w' from parent_root ⟨nm.toArray⟩ W (henv.later hW).env hfit hsp))
        have HCU2 := Lib.hid (HCU.out nm)
        rw [hcut] at HCU2
        dsimp only [Option.getD_none, Option.isSome_none] at HCU2
        clear hr hs henv hkd hq hok hn hfit hsp hcut HCU
        go_enter Tryz.func3, Tryz.ntmps3
        go_wp2_with fail
        generalize w.alloc (.cells #[.string ⟨o.toArray⟩, .slice za l.length zc] 24) = w2 at *
        refine (HZ.out _ HB.out).mono ?_
        rintro e w3 ⟨rfl, hB3⟩
        have HB3 := Lib.hid (HB.out.trans (hB3.mono HB.out.size))
        have Hz3 := Lib.hid (Hb1.out.later hB3)
        have hc3 := fun j => Hz3.out.cell j
        clear hB3
        go_wp2_with fail
        refine (HC.out _ HB3.out).mono ?_
        rintro e w4 ⟨rfl, hB4⟩
        have HB4 := Lib.hid (HB3.out.trans (hB4.mono HB3.out.size))
        have Hz4 := Lib.hid (Hz3.out.later hB4)
        have hc4 := fun j => Hz4.out.cell j
        clear hB4 hc3
        go_wp2_with fail
        refine (HCU2.out _ HB4.out).mono ?_
        rintro e w5 ⟨rfl, hB5⟩
        have HB5 := Lib.hid (HB4.out.trans (hB5.mono HB4.out.size))
        have Hz5 := Lib.hid (Hz4.out.later hB5)
        have hc5 := fun j => Hz5.out.cell j
        clear hB5 hc4
        go_wp2_with fail
        refine (HPR.out _ HB5.out).mono ?_
        rintro e w6 ⟨rfl, hB6⟩
        have HB6 := Lib.hid (HB5.out.trans (hB6.mono HB5.out.size))
        have Hz6 := Lib.hid (Hz5.out.later hB6)
        have hc6 := fun j => Hz6.out.cell j
        clear hB6 hc5
        go_wp2_with fail
        refine (HF.out _ HB6.out).mono ?_
        rintro e w7 ⟨rfl, hB7⟩
        have HB7 := Lib.hid (HB6.out.trans (hB7.mono HB6.out.size))
        have Hz7 := Lib.hid (Hz6.out.later hB7)
        have hc7 := fun j => Hz7.out.cell j
        clear hB7 hc6
        go_wp2
        go_ret
        exact true_ret (by simp) HB7.out
      | cons x r =>
        have hpar := Rn.under_parent hfit hsp
        have HPR := Lib.hid (fun W (hW : Below w.heap.size w W) => (show Calls Tryz.prog 18 #[.string ⟨nm.toArray⟩] W fun e w' => e = .returned (.tuple #[.string ⟨(Lb.join r).toArray⟩, .int .i64 0]) ∧ Below W.heap.size W w' from by
          have h := parent_fit ⟨nm.toArray⟩ W (henv.later hW).env hfit (by show Lb.split nm ≠ []; rw [hsp]; simp)
          rw [show (Lb.split (⟨nm.toArray⟩ : ByteArray).data.toList).tail = r from by show (Lb.split nm).tail = r; rw [hsp]; rfl] at h
          exact h))
        have HCU2 := Lib.hid (HCU.out nm)
        have HCU3 := Lib.hid (HCU.out (Lb.join r))
        cases hp : Zn.cutF ⟨o, l⟩ (Lb.join r) with
        | some t =>
          have hc := Rn.cutTop_was hok hfit hsp hp
          rw [hc] at HCU2
          rw [hp] at HCU3
          dsimp only [Option.getD_some, Option.isSome_some] at HCU2 HCU3
          clear hr hs henv hkd hq hok hn hfit hsp hp hc HCU hpar
          go_enter Tryz.func3, Tryz.ntmps3
          go_wp2_with fail
          generalize w.alloc (.cells #[.string ⟨o.toArray⟩, .slice za l.length zc] 24) = w2 at *
          refine (HZ.out _ HB.out).mono ?_
          rintro e w3 ⟨rfl, hB3⟩
          have HB3 := Lib.hid (HB.out.trans (hB3.mono HB.out.size))
          have Hz3 := Lib.hid (Hb1.out.later hB3)
          have hc3 := fun j => Hz3.out.cell j
          clear hB3
          go_wp2_with fail
          refine (HC.out _ HB3.out).mono ?_
          rintro e w4 ⟨rfl, hB4⟩
          have HB4 := Lib.hid (HB3.out.trans (hB4.mono HB3.out.size))
          have Hz4 := Lib.hid (Hz3.out.later hB4)
          have hc4 := fun j => Hz4.out.cell j
          clear hB4 hc3
          go_wp2_with fail
          refine (HCU2.out _ HB4.out).mono ?_
          rintro e w5 ⟨rfl, hB5⟩
          have HB5 := Lib.hid (HB4.out.trans (hB5.mono HB4.out.size))
          have Hz5 := Lib.hid (Hz4.out.later hB5)
          have hc5 := fun j => Hz5.out.cell j
          clear hB5 hc4
          go_wp2_with fail
          refine (HPR.out _ HB5.out).mono ?_
          rintro e w6 ⟨rfl, hB6⟩
          have HB6 := Lib.hid (HB5.out.trans (hB6.mono HB5.out.size))
          have Hz6 := Lib.hid (Hz5.out.later hB6)
          have hc6 := fun j => Hz6.out.cell j
          clear hB6 hc5
          go_wp2_with fail
          refine (HCU3.out _ HB6.out).mono ?_
          rintro e w7 ⟨rfl, hB7⟩
          have HB7 := Lib.hid (HB6.out.trans (hB7.mono HB6.out.size))
          have Hz7 := Lib.hid (Hz6.out.later hB7)
          have hc7 := fun j => Hz7.out.cell j
          clear hB7 hc6
          go_wp2_with fail
          refine (HF.out _ HB7.out).mono ?_
          rintro e w8 ⟨rfl, hB8⟩
          have HB8 := Lib.hid (HB7.out.trans (hB8.mono HB7.out.size))
          have Hz8 := Lib.hid (Hz7.out.later hB8)
          have hc8 := fun j => Hz8.out.cell j
          clear hB8 hc7
          go_wp2
          go_ret
          exact true_ret (by simp) HB8.out
        | none =>
          rw [hp] at HCU3
          cases hc : Zn.cutF ⟨o, l⟩ nm with
          | none =>
            rw [hc] at HCU2
            dsimp only [Option.getD_none, Option.isSome_none] at HCU2 HCU3
            clear hr hs henv hkd hq hok hn hfit hsp hp hc HCU hpar
            go_enter Tryz.func3, Tryz.ntmps3
            go_wp2_with fail
            generalize w.alloc (.cells #[.string ⟨o.toArray⟩, .slice za l.length zc] 24) = w2 at *
            refine (HZ.out _ HB.out).mono ?_
            rintro e w3 ⟨rfl, hB3⟩
            have HB3 := Lib.hid (HB.out.trans (hB3.mono HB.out.size))
            have Hz3 := Lib.hid (Hb1.out.later hB3)
            have hc3 := fun j => Hz3.out.cell j
            clear hB3
            go_wp2_with fail
            refine (HC.out _ HB3.out).mono ?_
            rintro e w4 ⟨rfl, hB4⟩
            have HB4 := Lib.hid (HB3.out.trans (hB4.mono HB3.out.size))
            have Hz4 := Lib.hid (Hz3.out.later hB4)
            have hc4 := fun j => Hz4.out.cell j
            clear hB4 hc3
            go_wp2_with fail
            refine (HCU2.out _ HB4.out).mono ?_
            rintro e w5 ⟨rfl, hB5⟩
            have HB5 := Lib.hid (HB4.out.trans (hB5.mono HB4.out.size))
            have Hz5 := Lib.hid (Hz4.out.later hB5)
            have hc5 := fun j => Hz5.out.cell j
            clear hB5 hc4
            go_wp2_with fail
            refine (HPR.out _ HB5.out).mono ?_
            rintro e w6 ⟨rfl, hB6⟩
            have HB6 := Lib.hid (HB5.out.trans (hB6.mono HB5.out.size))
            have Hz6 := Lib.hid (Hz5.out.later hB6)
            have hc6 := fun j => Hz6.out.cell j
            clear hB6 hc5
            go_wp2_with fail
            refine (HCU3.out _ HB6.out).mono ?_
            rintro e w7 ⟨rfl, hB7⟩
            have HB7 := Lib.hid (HB6.out.trans (hB7.mono HB6.out.size))
            have Hz7 := Lib.hid (Hz6.out.later hB7)
            have hc7 := fun j => Hz7.out.cell j
            clear hB7 hc6
            go_wp2_with fail
            refine (HF.out _ HB7.out).mono ?_
            rintro e w8 ⟨rfl, hB8⟩
            have HB8 := Lib.hid (HB7.out.trans (hB8.mono HB7.out.size))
            have Hz8 := Lib.hid (Hz7.out.later hB8)
            have hc8 := fun j => Hz8.out.cell j
            clear hB8 hc7
            go_wp2
            go_ret
            exact true_ret (by simp) HB8.out
          | some c =>
            have hcn := Rn.cutTop_is hok hfit hsp hp hc
            subst hcn
            rw [hc] at HCU2
            dsimp only [Option.getD_none, Option.isSome_none, Option.getD_some, Option.isSome_some] at HCU2 HCU3
            clear hr hs henv hkd hq hok hn hfit hsp hp hc HCU hpar
            go_enter Tryz.func3, Tryz.ntmps3
            go_wp2_with fail
            generalize w.alloc (.cells #[.string ⟨o.toArray⟩, .slice za l.length zc] 24) = w2 at *
            refine (HZ.out _ HB.out).mono ?_
            rintro e w3 ⟨rfl, hB3⟩
            have HB3 := Lib.hid (HB.out.trans (hB3.mono HB.out.size))
            have Hz3 := Lib.hid (Hb1.out.later hB3)
            have hc3 := fun j => Hz3.out.cell j
            clear hB3
            go_wp2_with fail
            refine (HC.out _ HB3.out).mono ?_
            rintro e w4 ⟨rfl, hB4⟩
            have HB4 := Lib.hid (HB3.out.trans (hB4.mono HB3.out.size))
            have Hz4 := Lib.hid (Hz3.out.later hB4)
            have hc4 := fun j => Hz4.out.cell j
            clear hB4 hc3
            go_wp2_with fail
            refine (HCU2.out _ HB4.out).mono ?_
            rintro e w5 ⟨rfl, hB5⟩
            have HB5 := Lib.hid (HB4.out.trans (hB5.mono HB4.out.size))
            have Hz5 := Lib.hid (Hz4.out.later hB5)
            have hc5 := fun j => Hz5.out.cell j
            clear hB5 hc4
            go_wp2_with fail
            refine (HPR.out _ HB5.out).mono ?_
            rintro e w6 ⟨rfl, hB6⟩
            have HB6 := Lib.hid (HB5.out.trans (hB6.mono HB5.out.size))
            have Hz6 := Lib.hid (Hz5.out.later hB6)
            have hc6 := fun j => Hz6.out.cell j
            clear hB6 hc5
            go_wp2_with fail
            refine (HCU3.out _ HB6.out).mono ?_
            rintro e w7 ⟨rfl, hB7⟩
            have HB7 := Lib.hid (HB6.out.trans (hB7.mono HB6.out.size))
            have Hz7 := Lib.hid (Hz6.out.later hB7)
            have hc7 := fun j => Hz7.out.cell j
            clear hB7 hc6
            go_wp2_with fail
            refine (HF.out _ HB7.out).mono ?_
            rintro e w8 ⟨rfl, hB8⟩
            have HB8 := Lib.hid (HB7.out.trans (hB8.mono HB7.out.size))
            have Hz8 := Lib.hid (Hz7.out.later hB8)
            have hc8 := fun j => Hz8.out.cell j
            clear hB8 hc7
            go_wp2
            go_ret
            exact true_ret (by simp) HB8.out
    · generalize Lb.check nm = c at *
      have hcb : (c == 0) = false := beq_eq_false_iff_ne.2 hn
      have hcb2 : (c != 0) = true := by rw [bne, hcb]; rfl
      clear hr hs henv hkd hq hok hn
      go_enter Tryz.func3, Tryz.ntmps3
      go_wp2_with fail
      generalize w.alloc (.cells #[.string ⟨o.toArray⟩, .slice za l.length zc] 24) = w2 at *
      refine (HZ.out _ HB.out).mono ?_
      rintro e w3 ⟨rfl, hB3⟩
      have HB3 := Lib.hid (HB.out.trans (hB3.mono HB.out.size))
      have Hz3 := Lib.hid (Hb1.out.later hB3)
      have hc3 := fun j => Hz3.out.cell j
      clear hB3
      go_wp2_with fail
      refine (HC.out _ HB3.out).mono ?_
      rintro e w4 ⟨rfl, hB4⟩
      have HB4 := Lib.hid (HB3.out.trans (hB4.mono HB3.out.size))
      have Hz4 := Lib.hid (Hz3.out.later hB4)
      have hc4 := fun j => Hz4.out.cell j
      clear hB4 hc3
      go_wp2_with fail
      refine (HF.out _ HB4.out).mono ?_
      rintro e w5 ⟨rfl, hB5⟩
      have HB5 := Lib.hid (HB4.out.trans (hB5.mono HB4.out.size))
      have Hz5 := Lib.hid (Hz4.out.later hB5)
      have hc5 := fun j => Hz5.out.cell j
      clear hB5 hc4
      go_wp2
      go_ret
      exact true_ret (by simp) HB5.out
  · generalize Zn.checkZ ⟨o, l⟩ = q at *
    have hqb : (q == 0) = false := beq_eq_false_iff_ne.2 hq
    have hqb2 : (q != 0) = true := by rw [bne, hqb]; rfl
    clear hr hs henv hkd hq
    go_enter Tryz.func3, Tryz.ntmps3
    go_wp2_with fail
    generalize w.alloc (.cells #[.string ⟨o.toArray⟩, .slice za l.length zc] 24) = w2 at *
    refine (HZ.out _ HB.out).mono ?_
    rintro e w3 ⟨rfl, hB3⟩
    have HB3 := Lib.hid (HB.out.trans (hB3.mono HB.out.size))
    have Hz3 := Lib.hid (Hb1.out.later hB3)
    have hc3 := fun j => Hz3.out.cell j
    clear hB3
    go_wp2_with fail
    refine (HF.out _ HB3.out).mono ?_
    rintro e w4 ⟨rfl, hB4⟩
    have HB4 := Lib.hid (HB3.out.trans (hB4.mono HB3.out.size))
    have Hz4 := Lib.hid (Hz3.out.later hB4)
    have hc4 := fun j => Hz4.out.cell j
    clear hB4 hc3
    go_wp2
    go_ret
    exact true_ret (by simp) HB4.out
end Go.Proofs.YtajllcbjgndcpaaGreatDoor
