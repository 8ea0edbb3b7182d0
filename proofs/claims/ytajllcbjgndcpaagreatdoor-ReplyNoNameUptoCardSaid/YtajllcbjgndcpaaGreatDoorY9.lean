/- WALKS: ReplyNoName. -/
import Derived.Test.YtajllcbjgndcpaaGreatDoorY7
namespace Go.Proofs.YtajllcbjgndcpaaGreatDoor
open Go.RowKit Go.Maps

set_option maxHeartbeats 6400000 in
set_option maxRecDepth 100000 in
theorem noName_not (o : Lb.Bs) (za : Option Addr) (n zc : Nat) (nm : Lb.Bs) (kd q : Int) (R : Rn.Reply) (hq : q ≠ 0 ∨ q = 0 ∧ R.code ≠ 5) (w : World) (henv : EnvZ w)
    (hA : ∀ W, Below w.heap.size w W → Calls Tryz.prog 22 #[zoneV o za n zc, .string ⟨nm.toArray⟩, .int .i64 kd] W (AnsEnd R q W)) :
    Calls Tryz.prog 7 #[zoneV o za n zc, .string ⟨nm.toArray⟩, .int .i64 kd] w (TrueEnd w) := by
  have HA := Lib.hid hA
  have HF := Lib.hid (fun W (hW : Below w.heap.size w W) => replyFact_any W (henv.later hW))
  unfold AnsEnd zoneV at HA
  unfold TrueEnd at HF
  unfold zoneV
  obtain ⟨c, L, S, G, ng⟩ := R
  dsimp only at hq
  have HB := Lib.hid ((Below.refl _ w).alloc (Nat.le_refl _) (.cells #[.string ⟨o.toArray⟩, .slice za n zc] 24))
  have hcases : ((q == 0) = false ∧ (q != 0) = true) ∨ ((q == 0) = true ∧ (q != 0) = false ∧ (c == 5) = false ∧ (c != 5) = true) := by
    rcases hq with h | ⟨rfl, h⟩
    · have := beq_eq_false_iff_ne.2 h
      exact .inl ⟨this, by rw [bne, this]; rfl⟩
    · have := beq_eq_false_iff_ne.2 h
      exact .inr ⟨rfl, rfl, this, by rw [bne, this]; rfl⟩
  clear hA hq henv
  rcases hcases with ⟨h1, h2⟩ | ⟨h1, h2, h3, h4⟩
  all_goals
    go_enter Tryz.func7, Tryz.ntmps7
    go_wp2_with fail
    generalize w.alloc (.cells #[.string ⟨o.toArray⟩, .slice za n zc] 24) = w2 at *
    refine (HA.out _ HB.out).mono ?_
    rintro e w3 ⟨v, rfl, hrep, hB3⟩
    have HB3 := Lib.hid (HB.out.trans (hB3.mono HB.out.size))
    obtain ⟨v1, v2, v3, rfl, hr1, hr2, hr3⟩ := hrep.val
    dsimp only at hr1 hr2 hr3 ⊢
    obtain ⟨a1, k1, rfl⟩ := hr1.val
    obtain ⟨a2, k2, rfl⟩ := hr2.val
    obtain ⟨a3, k3, rfl⟩ := hr3.val
    clear hrep hr1 hr2 hr3 hB3
    have HBa := Lib.hid (HB3.out.alloc HB3.out.size (.cells #[.int .i64 c, .slice a1 L.length k1, .slice a2 S.length k2, .slice a3 G.length k3, .int .i64 ng] 39))
    go_wp2_with fail
    refine (HF.out _ HBa.out).mono ?_
    rintro e w4 ⟨rfl, hB4⟩
    have HB4 := Lib.hid (HBa.out.trans (hB4.mono HBa.out.size))
    clear hB4
    go_wp2
    go_ret
    exact true_ret rfl HB4.out

def NnInv (w0 : World) (wr : World) : Prop := Below w0.heap.size w0 wr
set_option maxHeartbeats 6400000 in
set_option maxRecDepth 100000 in
theorem noName_is (o : Lb.Bs) (za : Option Addr) (n zc : Nat) (nm : Lb.Bs) (kd q2 ng : Int) (R2 : Rn.Reply) (h2 : q2 = 0 → R2.code = 5) (hnm : nm.length ≤ 80) (w : World) (henv : EnvZ w)
    (hA : ∀ W, Below w.heap.size w W → Calls Tryz.prog 22 #[zoneV o za n zc, .string ⟨nm.toArray⟩, .int .i64 kd] W (AnsEnd { code := 5, neg := ng } 0 W))
    (hAk : ∀ k : Nat, 1 ≤ k → k ≤ 5 → ∀ W, Below w.heap.size w W → Calls Tryz.prog 22 #[zoneV o za n zc, .string ⟨nm.toArray⟩, .int .i64 k] W (AnsEnd { code := 5, neg := ng } 0 W))
    (hA2 : ∀ W, Below w.heap.size w W → Calls Tryz.prog 22 #[zoneV o za n zc, .string ⟨(120 :: 46 :: nm).toArray⟩, .int .i64 kd] W (AnsEnd R2 q2 W)) :
    Calls Tryz.prog 7 #[zoneV o za n zc, .string ⟨nm.toArray⟩, .int .i64 kd] w (TrueEnd w) := by
  have HA := Lib.hid hA
  have HAk := Lib.hid hAk
  have HA2 := Lib.hid hA2
  have HF := Lib.hid (fun W (hW : Below w.heap.size w W) => replyFact_any W (henv.later hW))
  unfold AnsEnd zoneV at HA HA2 HAk
  unfold TrueEnd at HF
  unfold zoneV
  have HB := Lib.hid ((Below.refl _ w).alloc (Nat.le_refl _) (.cells #[.string ⟨o.toArray⟩, .slice za n zc] 24))
  have Hb1 := Lib.hid (blk_new w #[.string ⟨o.toArray⟩, .slice za n zc] 24)
  have Hstr := Lib.hid (show (⟨#[120, 46]⟩ : ByteArray) ++ ⟨nm.toArray⟩ = ⟨(120 :: 46 :: nm).toArray⟩ from str_app [120, 46] nm)
  have hcases : ((q2 == 0) = false ∧ (q2 != 0) = true) ∨ ((q2 == 0) = true ∧ (q2 != 0) = false ∧ (R2.code == 5) = true) := by
    by_cases h : q2 = 0
    · subst h
      exact .inr ⟨rfl, rfl, by rw [h2 rfl]; rfl⟩
    · have := beq_eq_false_iff_ne.2 h
      exact .inl ⟨this, by rw [bne, this]; rfl⟩
  obtain ⟨c2, L2, S2, G2, ng2⟩ := R2
  dsimp only at hcases
  have Hcases := Lib.hid hcases
  clear hA hAk hA2 henv h2 hcases
  go_enter Tryz.func7, Tryz.ntmps7
  go_wp2_with fail
  generalize w.alloc (.cells #[.string ⟨o.toArray⟩, .slice za n zc] 24) = w2 at *
  refine (HA.out _ HB.out).mono ?_
  rintro e w3 ⟨v, rfl, hrep, hB3⟩
  have HB3 := Lib.hid (HB.out.trans (hB3.mono HB.out.size))
  have Hz3 := Lib.hid (Hb1.out.later hB3)
  obtain ⟨v1, v2, v3, rfl, hr1, hr2, hr3⟩ := hrep.val
  dsimp only at hr1 hr2 hr3 ⊢
  obtain ⟨a1, k1, rfl⟩ := hr1.val
  obtain ⟨a2, k2, rfl⟩ := hr2.val
  obtain ⟨a3, k3, rfl⟩ := hr3.val
  clear hrep hr1 hr2 hr3 hB3
  dsimp only [List.length_nil]
  have HBa := Lib.hid (HB3.out.alloc HB3.out.size (.cells #[.int .i64 5, .slice a1 0 k1, .slice a2 0 k2, .slice a3 0 k3, .int .i64 ng] 39))
  have Hz4 := Lib.hid (Hz3.out.alloc (.cells #[.int .i64 5, .slice a1 0 k1, .slice a2 0 k2, .slice a3 0 k3, .int .i64 ng] 39))
  go_wp2
  generalize w3.alloc (.cells #[.int .i64 5, .slice a1 0 k1, .slice a2 0 k2, .slice a3 0 k3, .int .i64 ng] 39) = w4 at *
  go_loopw [9] (fun kv wr => ∃ (k : Nat), 1 ≤ k ∧ k ≤ 6 ∧ kv = .int .i64 k ∧ Hid (NnInv w4 wr)) (fun kv _ => 6 - (intOf kv).toNat)
  case atStart => exact ⟨1, by omega, by omega, rfl, Below.refl _ _⟩
  case round =>
    obtain ⟨k, hk1, hk6, rfl, HI⟩ := hrel
    have hI : Below w4.heap.size w4 wr := HI.out
    have hz := Hz4.out.later hI
    have hcz := fun j => hz.cell j
    have HBt := Lib.hid (HBa.out.trans (hI.mono HBa.out.size))
    by_cases hlt : k ≤ 5
    · have hk5 : (k : Int) ≤ 5 := by omega
      have HAkk := Lib.hid (HAk.out k hk1 hlt _ HBt.out)
      clear hI hz
      go_wp2_with fail
      refine HAkk.out.mono ?_
      rintro e w5 ⟨v, rfl, hrep, hB5⟩
      have HB5 := Lib.hid (HI.out.trans (hB5.mono (show Below w4.heap.size w4 wr from HI.out).size))
      obtain ⟨u1, u2, u3, rfl, hr1, hr2, hr3⟩ := hrep.val
      dsimp only at hr1 hr2 hr3 ⊢
      obtain ⟨b1, j1, rfl⟩ := hr1.val
      obtain ⟨b2, j2, rfl⟩ := hr2.val
      obtain ⟨b3, j3, rfl⟩ := hr3.val
      clear hrep hr1 hr2 hr3 hB5 hcz
      dsimp only [List.length_nil]
      have HBn := Lib.hid ((show Below w4.heap.size w4 w5 from HB5.out).alloc (show Below w4.heap.size w4 w5 from HB5.out).size (.cells #[.int .i64 5, .slice b1 0 j1, .slice b2 0 j2, .slice b3 0 j3, .int .i64 ng] 39))
      go_wp2
      refine ⟨⟨k + 1, by omega, by omega, by go_num, HBn.out⟩, by simp [intOf]; omega⟩
    · have hk5 : ¬ (k : Int) ≤ 5 := by omega
      clear hI hz
      go_wp2_with fail
      rw [Hstr.out]
      refine (HA2.out _ HBt.out).mono ?_
      rintro e w5 ⟨v, rfl, hrep, hB5⟩
      have HB5 := Lib.hid (HBt.out.trans (hB5.mono HBt.out.size))
      obtain ⟨u1, u2, u3, rfl, hr1, hr2, hr3⟩ := hrep.val
      dsimp only at hr1 hr2 hr3 ⊢
      obtain ⟨b1, j1, rfl⟩ := hr1.val
      obtain ⟨b2, j2, rfl⟩ := hr2.val
      obtain ⟨b3, j3, rfl⟩ := hr3.val
      clear hrep hr1 hr2 hr3 hB5 hcz
      have HBn := Lib.hid (HB5.out.alloc HB5.out.size (.cells #[.int .i64 c2, .slice b1 L2.length j1, .slice b2 S2.length j2, .slice b3 G2.length j3, .int .i64 ng2] 39))
      have Hbn := Lib.hid (blk_new w5 #[.int .i64 c2, .slice b1 L2.length j1, .slice b2 S2.length j2, .slice b3 G2.length j3, .int .i64 ng2] 39)
      have hcs := Hcases.out
      clear Hcases
      rcases hcs with ⟨e1, e2⟩ | ⟨e1, e2, e3⟩
      all_goals
        go_wp2_with fail
        refine (HF.out _ HBn.out).mono ?_
        rintro e w6 ⟨rfl, hB6⟩
        have HB6 := Lib.hid (HBn.out.trans (hB6.mono HBn.out.size))
        have hbn := Hbn.out.later hB6
        have hcn := fun j => hbn.cell j
        clear hB6 hbn
        go_wp2
        go_ret
        exact true_ret (by simp) HB6.out

theorem replyNoName_any (B : Nat) (o : Lb.Bs) (za : Option Addr) (zc : Nat) (l : List Cb.Rec) (s : ByteArray) (kd : Int) (w : World) (henv : EnvZ w) (hr : Recs B w (.slice za l.length zc) l) (hs : ∀ r ∈ l, r.data.length ≤ 1048576) :
    Calls Tryz.prog 7 #[zoneV o za l.length zc, .string s, .int .i64 kd] w (TrueEnd w) := by
  rw [str_is s]
  have hA := fun (n : Lb.Bs) (k : Int) W (hW : Below w.heap.size w W) => answer_any B o za zc l n k W (henv.later hW) (hr.later hW) hs
  by_cases hq : Rn.chk ⟨o, l⟩ s.data.toList kd = 0
  · by_cases hc : (Rn.body ⟨o, l⟩ s.data.toList kd).code = 5
    · have hk := Rn.chk_ok hq
      have hall := Rn.noName_kinds hq hc
      have hA0 := hA s.data.toList kd
      rw [hall kd hk.kind] at hA0
      refine noName_is o za l.length zc _ kd (Rn.answer ⟨o, l⟩ (120 :: 46 :: s.data.toList) kd).2 _ (Rn.answer ⟨o, l⟩ (120 :: 46 :: s.data.toList) kd).1 (Rn.noName_below hq hc) hk.fit.len w henv hA0 (fun k h1 h2 W hW => ?_) (hA _ _)
      have := hA s.data.toList k W hW
      rw [hall k ⟨by omega, by omega⟩] at this
      exact this
    · have e : Rn.answer ⟨o, l⟩ s.data.toList kd = (Rn.body ⟨o, l⟩ s.data.toList kd, 0) := by unfold Rn.answer; rw [if_neg (by simp [hq])]
      have hA0 := hA s.data.toList kd
      rw [e] at hA0
      exact noName_not o za l.length zc _ kd _ _ (.inr ⟨rfl, hc⟩) w henv hA0
  · have e : Rn.answer ⟨o, l⟩ s.data.toList kd = ({}, Rn.chk ⟨o, l⟩ s.data.toList kd) := by unfold Rn.answer; rw [if_pos hq]
    have hA0 := hA s.data.toList kd
    rw [e] at hA0
    exact noName_not o za l.length zc _ kd _ _ (.inl hq) w henv hA0
end Go.Proofs.YtajllcbjgndcpaaGreatDoor
