/- WALKS: reply.check, reply.Answer. -/
import Derived.Test.YtajllcbjgndcpaaGreatDoorY4
import Derived.Test.YtajllcbjgndcpaaGreatDoorZ10
namespace Go.Proofs.YtajllcbjgndcpaaGreatDoor
open Go.RowKit Go.Maps

def IntEnd (q : Int) (w0 : World) (e : Ending) (w' : World) : Prop := e = .returned (.int .i64 q) ∧ Below w0.heap.size w0 w'
set_option maxHeartbeats 6400000 in
set_option maxRecDepth 100000 in
theorem rcheck_any (B : Nat) (o : Lb.Bs) (za : Option Addr) (zc : Nat) (l : List Cb.Rec) (nm : Lb.Bs) (kd : Int) (w : World) (henv : EnvZ w) (hr : Recs B w (.slice za l.length zc) l) (hs : ∀ r ∈ l, r.data.length ≤ 1048576) :
    Calls Tryz.prog 53 #[zoneV o za l.length zc, .string ⟨nm.toArray⟩, .int .i64 kd] w (IntEnd (Rn.chk ⟨o, l⟩ nm kd) w) := by
  have HZ := Lib.hid (fun W (hW : Below w.heap.size w W) => zcheck_any B o za zc l W (henv.later hW) (hr.later hW) hs)
  have HC := Lib.hid (fun W (hW : Below w.heap.size w W) => (show Calls Tryz.prog 15 #[.string ⟨nm.toArray⟩] W fun e w' => e = .returned (.int .i64 (Lb.check nm)) ∧ Below _ _ w' from check_any ⟨nm.toArray⟩ _ (henv.later hW).env))
  have HU := Lib.hid (fun W (hW : Below w.heap.size w W) => (show Calls Tryz.prog 30 #[.string ⟨nm.toArray⟩, .string ⟨o.toArray⟩] W (UndEnd nm o W) from under_all ⟨nm.toArray⟩ ⟨o.toArray⟩ W (henv.later hW).env))
  have HW := Lib.hid (fun W => (show Calls Tryz.prog 36 #[.string ⟨nm.toArray⟩, .string ⟨#[42]⟩] W fun e w' => e = .returned (.bool (Zn.star nm)) ∧ W = w' from star_any ⟨nm.toArray⟩ W))
  unfold ChkEnd zoneV at HZ
  unfold UndEnd at HU
  unfold zoneV IntEnd Rn.chk
  dsimp only
  have HB := Lib.hid ((Below.refl _ w).alloc (Nat.le_refl _) (.cells #[.string ⟨o.toArray⟩, .slice za l.length zc] 24))
  have Hb1 := Lib.hid (blk_new w #[.string ⟨o.toArray⟩, .slice za l.length zc] 24)
  generalize Zn.checkZ ⟨o, l⟩ = q at *
  generalize Lb.check nm = c at *
  generalize Zn.star nm = st at *
  generalize Zn.under nm o = u at *
  clear hr hs henv
  by_cases hq : q = 0
  · have hqb : (q == 0) = true := by rw [beq_iff_eq]; exact hq
    have hqb2 : (q != 0) = false := by rw [bne, hqb]; rfl
    rw [if_neg (by simp [hq])]
    clear hq
    by_cases hc : c = 0
    · have hcb : (c == 0) = true := by rw [beq_iff_eq]; exact hc
      have hcb2 : (c != 0) = false := by rw [bne, hcb]; rfl
      rw [if_neg (by simp [hc])]
      clear hc
      cases st with
      | true =>
        rw [if_pos rfl]
        go_enter Tryz.func53, Tryz.ntmps53
        go_wp2_with fail
        generalize w.alloc (.cells #[.string ⟨o.toArray⟩, .slice za l.length zc] 24) = w2 at *
        refine (HZ.out _ HB.out).mono ?_
        rintro e w3 ⟨rfl, hB3⟩
        have HB3 := Lib.hid (HB.out.trans (hB3.mono HB.out.size))
        have hz3 := Hb1.out.later hB3
        have Hz3 := Lib.hid hz3
        have hc3 := fun j => hz3.cell j
        clear hB3 hz3
        go_wp2_with fail
        refine (HC.out _ HB3.out).mono ?_
        rintro e w4 ⟨rfl, hB4⟩
        have HB4 := Lib.hid (HB3.out.trans (hB4.mono HB3.out.size))
        have hz4 := Hz3.out.later hB4
        have hc4 := fun j => hz4.cell j
        clear hB4 hz4 hc3
        go_wp2_with fail
        refine (HU.out _ HB4.out).mono ?_
        rintro e w5 ⟨uq, rfl, -, hB5⟩
        have HB5 := Lib.hid (HB4.out.trans (hB5.mono HB4.out.size))
        clear hB5 hc4
        go_wp2_with fail
        refine (HW.out _).mono ?_
        rintro e w6 ⟨rfl, rfl⟩
        go_wp2
        go_ret
        exact ⟨rfl, HB5.out⟩
      | false =>
        rw [if_neg (by decide)]
        by_cases hk : kd < 1 ∨ kd > 5
        · rw [if_pos hk]
          have hcases : kd < 1 ∨ (¬ kd < 1 ∧ kd > 5) := by omega
          clear hk
          rcases hcases with hk | ⟨hk, hk2⟩
          all_goals
            go_enter Tryz.func53, Tryz.ntmps53
            go_wp2_with fail
            generalize w.alloc (.cells #[.string ⟨o.toArray⟩, .slice za l.length zc] 24) = w2 at *
            refine (HZ.out _ HB.out).mono ?_
            rintro e w3 ⟨rfl, hB3⟩
            have HB3 := Lib.hid (HB.out.trans (hB3.mono HB.out.size))
            have hz3 := Hb1.out.later hB3
            have Hz3 := Lib.hid hz3
            have hc3 := fun j => hz3.cell j
            clear hB3 hz3
            go_wp2_with fail
            refine (HC.out _ HB3.out).mono ?_
            rintro e w4 ⟨rfl, hB4⟩
            have HB4 := Lib.hid (HB3.out.trans (hB4.mono HB3.out.size))
            have hz4 := Hz3.out.later hB4
            have hc4 := fun j => hz4.cell j
            clear hB4 hz4 hc3
            go_wp2_with fail
            refine (HU.out _ HB4.out).mono ?_
            rintro e w5 ⟨uq, rfl, -, hB5⟩
            have HB5 := Lib.hid (HB4.out.trans (hB5.mono HB4.out.size))
            clear hB5 hc4
            go_wp2_with fail
            refine (HW.out _).mono ?_
            rintro e w6 ⟨rfl, rfl⟩
            go_wp2
            go_ret
            exact ⟨rfl, HB5.out⟩
        · rw [if_neg hk]
          have hk1 : ¬ kd < 1 := by omega
          have hk2 : ¬ kd > 5 := by omega
          clear hk
          cases u with
          | false =>
            rw [if_pos rfl]
            go_enter Tryz.func53, Tryz.ntmps53
            go_wp2_with fail
            generalize w.alloc (.cells #[.string ⟨o.toArray⟩, .slice za l.length zc] 24) = w2 at *
            refine (HZ.out _ HB.out).mono ?_
            rintro e w3 ⟨rfl, hB3⟩
            have HB3 := Lib.hid (HB.out.trans (hB3.mono HB.out.size))
            have hz3 := Hb1.out.later hB3
            have Hz3 := Lib.hid hz3
            have hc3 := fun j => hz3.cell j
            clear hB3 hz3
            go_wp2_with fail
            refine (HC.out _ HB3.out).mono ?_
            rintro e w4 ⟨rfl, hB4⟩
            have HB4 := Lib.hid (HB3.out.trans (hB4.mono HB3.out.size))
            have hz4 := Hz3.out.later hB4
            have hc4 := fun j => hz4.cell j
            clear hB4 hz4 hc3
            go_wp2_with fail
            refine (HU.out _ HB4.out).mono ?_
            rintro e w5 ⟨uq, rfl, -, hB5⟩
            have HB5 := Lib.hid (HB4.out.trans (hB5.mono HB4.out.size))
            clear hB5 hc4
            go_wp2_with fail
            refine (HW.out _).mono ?_
            rintro e w6 ⟨rfl, rfl⟩
            go_wp2
            go_ret
            exact ⟨rfl, HB5.out⟩
          | true =>
            rw [if_neg (by decide)]
            go_enter Tryz.func53, Tryz.ntmps53
            go_wp2_with fail
            generalize w.alloc (.cells #[.string ⟨o.toArray⟩, .slice za l.length zc] 24) = w2 at *
            refine (HZ.out _ HB.out).mono ?_
            rintro e w3 ⟨rfl, hB3⟩
            have HB3 := Lib.hid (HB.out.trans (hB3.mono HB.out.size))
            have hz3 := Hb1.out.later hB3
            have Hz3 := Lib.hid hz3
            have hc3 := fun j => hz3.cell j
            clear hB3 hz3
            go_wp2_with fail
            refine (HC.out _ HB3.out).mono ?_
            rintro e w4 ⟨rfl, hB4⟩
            have HB4 := Lib.hid (HB3.out.trans (hB4.mono HB3.out.size))
            have hz4 := Hz3.out.later hB4
            have hc4 := fun j => hz4.cell j
            clear hB4 hz4 hc3
            go_wp2_with fail
            refine (HU.out _ HB4.out).mono ?_
            rintro e w5 ⟨uq, rfl, -, hB5⟩
            have HB5 := Lib.hid (HB4.out.trans (hB5.mono HB4.out.size))
            clear hB5 hc4
            go_wp2_with fail
            refine (HW.out _).mono ?_
            rintro e w6 ⟨rfl, rfl⟩
            go_wp2
            go_ret
            exact ⟨rfl, HB5.out⟩
    · have hcb : (c == 0) = false := beq_eq_false_iff_ne.2 hc
      have hcb2 : (c != 0) = true := by rw [bne, hcb]; rfl
      rw [if_pos hc]
      clear hc
      go_enter Tryz.func53, Tryz.ntmps53
      go_wp2_with fail
      generalize w.alloc (.cells #[.string ⟨o.toArray⟩, .slice za l.length zc] 24) = w2 at *
      refine (HZ.out _ HB.out).mono ?_
      rintro e w3 ⟨rfl, hB3⟩
      have HB3 := Lib.hid (HB.out.trans (hB3.mono HB.out.size))
      have hz3 := Hb1.out.later hB3
      have Hz3 := Lib.hid hz3
      have hc3 := fun j => hz3.cell j
      clear hB3 hz3
      go_wp2_with fail
      refine (HC.out _ HB3.out).mono ?_
      rintro e w4 ⟨rfl, hB4⟩
      have HB4 := Lib.hid (HB3.out.trans (hB4.mono HB3.out.size))
      have hz4 := Hz3.out.later hB4
      have hc4 := fun j => hz4.cell j
      clear hB4 hz4 hc3
      go_wp2
      go_ret
      exact ⟨rfl, HB4.out⟩
  · have hqb : (q == 0) = false := beq_eq_false_iff_ne.2 hq
    have hqb2 : (q != 0) = true := by rw [bne, hqb]; rfl
    rw [if_pos hq]
    clear hq
    go_enter Tryz.func53, Tryz.ntmps53
    go_wp2_with fail
    generalize w.alloc (.cells #[.string ⟨o.toArray⟩, .slice za l.length zc] 24) = w2 at *
    refine (HZ.out _ HB.out).mono ?_
    rintro e w3 ⟨rfl, hB3⟩
    have HB3 := Lib.hid (HB.out.trans (hB3.mono HB.out.size))
    have hz3 := Hb1.out.later hB3
    have Hz3 := Lib.hid hz3
    have hc3 := fun j => hz3.cell j
    clear hB3 hz3
    go_wp2
    go_ret
    exact ⟨rfl, HB3.out⟩

theorem results_cell_pair {P : Program} {fn : Func} {p t : Tmp} {ty : TypeId} (h : fn.results = #[.cell p ty, .tmp t]) (tmps : Array Value) (w : World) (g : Nat) (T : TypeId) (cs : Array Value) (fr : Nat × Nat) (d : TypeDesc)
    (hp : tmps.getD p undef = .pointer (some ⟨g, 0, none⟩)) (hg : w.heap[g]? = some (.cells cs T fr))
    (hu : P.underlying ty = some d) (hd : (match d with | .struct _ | .array _ _ => true | _ => false) = true) (hi : (P.info? ty).map (·.size) = some cs.size) :
    (results fn tmps).run P w = .ok (.tuple #[.agg cs, tmps.getD t undef]) w := by
  have hp' : tmps[p]?.getD undef = .pointer (some ⟨g, 0, none⟩) := by simpa using hp
  simp [results, h, hp', asAddr, run_loadVar_row w g T ty cs fr d hg hu hd hi]
def AnsEnd (r : Rn.Reply) (q : Int) (w0 : World) (e : Ending) (w' : World) : Prop := ∃ v, e = .returned (.tuple #[v, .int .i64 q]) ∧ RepR w0.heap.size w' v r ∧ Below w0.heap.size w0 w'

set_option maxHeartbeats 6400000 in
set_option maxRecDepth 100000 in
theorem answer_any (B : Nat) (o : Lb.Bs) (za : Option Addr) (zc : Nat) (l : List Cb.Rec) (nm : Lb.Bs) (kd : Int) (w : World) (henv : EnvZ w) (hr : Recs B w (.slice za l.length zc) l) (hs : ∀ r ∈ l, r.data.length ≤ 1048576) :
    Calls Tryz.prog 22 #[zoneV o za l.length zc, .string ⟨nm.toArray⟩, .int .i64 kd] w (AnsEnd (Rn.answer ⟨o, l⟩ nm kd).1 (Rn.answer ⟨o, l⟩ nm kd).2 w) := by
  have HK := Lib.hid (fun W (hW : Below w.heap.size w W) => rcheck_any B o za zc l nm kd W (henv.later hW) (hr.later hW) hs)
  unfold IntEnd zoneV at HK
  have HB := Lib.hid (((Below.refl _ w).alloc (Nat.le_refl _) (.cells #[.string ⟨o.toArray⟩, .slice za l.length zc] 24)).alloc (by simp) (.cells #[.int .i64 0, .slice none 0 0, .slice none 0 0, .slice none 0 0, .int .i64 0] 39))
  have Hb1 := Lib.hid ((blk_new w #[.string ⟨o.toArray⟩, .slice za l.length zc] 24).alloc (.cells #[.int .i64 0, .slice none 0 0, .slice none 0 0, .slice none 0 0, .int .i64 0] 39))
  have Hb2 := Lib.hid (blk_second w (.cells #[.string ⟨o.toArray⟩, .slice za l.length zc] 24) #[.int .i64 0, .slice none 0 0, .slice none 0 0, .slice none 0 0, .int .i64 0] 39)
  unfold zoneV Rn.answer
  by_cases hq : Rn.chk ⟨o, l⟩ nm kd = 0
  · rw [if_neg (by simp [hq])]
    dsimp only
    have hk := Rn.chk_ok hq
    have hl := hk.zone.few
    dsimp only at hl
    have hin := hk.in_
    dsimp only at hin
    rw [hq] at HK
    have HCU := Lib.hid (fun W (hW : Below w.heap.size w W) => cut_any B o za zc l ⟨nm.toArray⟩ W (henv.later hW).env (hr.later hW))
    have HEX := Lib.hid (fun W (hW : Below w.heap.size w W) => exists_any B o za zc l ⟨nm.toArray⟩ W (henv.later hW).env (hr.later hW))
    have HNG := Lib.hid (fun W (hW : Below w.heap.size w W) => negative_any B o za zc l W (henv.later hW) (hr.later hW) hs)
    unfold CutEnd zoneV at HCU
    unfold HasEnd zoneV at HEX
    unfold NegEnd zoneV at HNG
    dsimp only at HCU HEX
    unfold Rn.body
    dsimp only
    cases hcut : Zn.cutF ⟨o, l⟩ nm with
    | some cu =>
      have HRF := Lib.hid (fun (c : Lb.Bs) W (hW : Below w.heap.size w W) => refer_any B o za zc l c W (henv.later hW).env (hr.later hW) hl)
      unfold RepEnd zoneV at HRF
      have hcut2 : Zn.cutF ⟨o, l⟩ (⟨nm.toArray⟩ : ByteArray).data.toList = some cu := hcut
      rw [hcut2] at HCU
      dsimp only [Option.getD_some, Option.isSome_some] at HCU ⊢
      have hgen : ∃ f : Lb.Bs → Rn.Reply, f = Rn.refer ⟨o, l⟩ := ⟨_, rfl⟩
      obtain ⟨R, hR⟩ : ∃ R, Rn.refer ⟨o, l⟩ cu = R := ⟨_, rfl⟩
      have HRF2 := Lib.hid (HRF.out cu)
      rw [hR] at HRF2 ⊢
      clear hr hs henv hq hk hl hin hcut hcut2 hgen HRF hR HEX HNG
      go_enter Tryz.func22, Tryz.ntmps22
      go_wp2_with fail
      generalize (w.alloc (.cells #[.string ⟨o.toArray⟩, .slice za l.length zc] 24)).alloc (.cells #[.int .i64 0, .slice none 0 0, .slice none 0 0, .slice none 0 0, .int .i64 0] 39) = w2 at *
      refine (HK.out _ HB.out).mono ?_
      rintro e w3 ⟨rfl, hB3⟩
      have HB3 := Lib.hid (HB.out.trans (hB3.mono HB.out.size))
      have Hz3 := Lib.hid (Hb1.out.later hB3)
      have Hq3 := Lib.hid (Hb2.out.later hB3)
      have hc3 := fun j => Hz3.out.cell j
      clear hB3
      go_wp2_with fail
      refine (HCU.out _ HB3.out).mono ?_
      rintro e w4 ⟨rfl, hB4⟩
      have HB4 := Lib.hid (HB3.out.trans (hB4.mono HB3.out.size))
      have Hz4 := Lib.hid (Hz3.out.later hB4)
      have Hq4 := Lib.hid (Hq3.out.later hB4)
      have hc4 := fun j => Hz4.out.cell j
      clear hB4 hc3
      go_wp2_with fail
      refine (HRF2.out _ HB4.out).mono ?_
      rintro e w5 ⟨v, rfl, hrep, hB5⟩
      have HB5 := Lib.hid (HB4.out.trans (hB5.mono HB4.out.size))
      have Hz5 := Lib.hid (Hz4.out.later hB5)
      have Hq5 := Lib.hid (Hq4.out.later hB5)
      have hq5 := fun j => Hq5.out.cell j
      have hf5 := fun j => Hq5.out.froz j
      clear hB5 hc4
      obtain ⟨v1, v2, v3, rfl, hr1, hr2, hr3⟩ := hrep.val
      obtain ⟨a1, k1, rfl⟩ := hr1.val
      obtain ⟨a2, k2, rfl⟩ := hr2.val
      obtain ⟨a3, k3, rfl⟩ := hr3.val
      have H1 := Lib.hid hr1
      have H2 := Lib.hid hr2
      have H3 := Lib.hid hr3
      have hlt := Hq4.out.lt
      have hsz := HB4.out.size
      generalize hl1 : R.recs.length = n1 at *
      generalize hl2 : R.servers.length = n2 at *
      generalize hl3 : R.glue.length = n3 at *
      have HL := Lib.hid (And.intro hl1 (And.intro hl2 hl3))
      clear hrep hr1 hr2 hr3 hl1 hl2 hl3
      go_wp2
      refine bodyPost_ret (results_cell_pair rfl _ _ (w.heap.size + 1) 39 _ (0, 0) _ rfl (five_blk Hq5.out) Tryz.underlying39 rfl (by kernel_rfl)) rfl ?_
      exact ⟨_, rfl, ⟨_, _, _, rfl, (H1.out.five hlt).mono hsz, (H2.out.five hlt).mono hsz, (H3.out.five hlt).mono hsz⟩, five_lo HB5.out (by omega)⟩
    | none =>
      have hcut2 : Zn.cutF ⟨o, l⟩ (⟨nm.toArray⟩ : ByteArray).data.toList = none := hcut
      rw [hcut2] at HCU
      dsimp only [Option.getD_none, Option.isSome_none] at HCU ⊢
      have HOW := Lib.hid (fun (s : Lb.Bs) W (hW : Below w.heap.size w W) => owned_any B o za zc l s nm kd W (henv.later hW) (hr.later hW) (by omega) hs)
      unfold RepEnd zoneV at HOW
      cases hx : Rn.has l nm with
      | true =>
        have hx2 : Rn.has l (⟨nm.toArray⟩ : ByteArray).data.toList = true := hx
        rw [hx2] at HEX
        rw [if_pos rfl]
        obtain ⟨R, hR⟩ : ∃ R, Rn.owned ⟨o, l⟩ nm nm kd = R := ⟨_, rfl⟩
        have HOW2 := Lib.hid (HOW.out nm)
        rw [hR] at HOW2 ⊢
        clear hr hs henv hq hk hl hin hcut hcut2 HOW hR HNG hx hx2
        go_enter Tryz.func22, Tryz.ntmps22
        go_wp2_with fail
        generalize (w.alloc (.cells #[.string ⟨o.toArray⟩, .slice za l.length zc] 24)).alloc (.cells #[.int .i64 0, .slice none 0 0, .slice none 0 0, .slice none 0 0, .int .i64 0] 39) = w2 at *
        refine (HK.out _ HB.out).mono ?_
        rintro e w3 ⟨rfl, hB3⟩
        have HB3 := Lib.hid (HB.out.trans (hB3.mono HB.out.size))
        have Hz3 := Lib.hid (Hb1.out.later hB3)
        have Hq3 := Lib.hid (Hb2.out.later hB3)
        have hc3 := fun j => Hz3.out.cell j
        clear hB3
        go_wp2_with fail
        refine (HCU.out _ HB3.out).mono ?_
        rintro e w4 ⟨rfl, hB4⟩
        have HB4 := Lib.hid (HB3.out.trans (hB4.mono HB3.out.size))
        have Hz4 := Lib.hid (Hz3.out.later hB4)
        have Hq4 := Lib.hid (Hq3.out.later hB4)
        have hc4 := fun j => Hz4.out.cell j
        clear hB4 hc3
        go_wp2_with fail
        refine (HEX.out _ HB4.out).mono ?_
        rintro e w5 ⟨rfl, hB5⟩
        have HB5 := Lib.hid (HB4.out.trans (hB5.mono HB4.out.size))
        have Hz5 := Lib.hid (Hz4.out.later hB5)
        have Hq5 := Lib.hid (Hq4.out.later hB5)
        have hc5 := fun j => Hz5.out.cell j
        clear hB5 hc4
        go_wp2_with fail
        refine (HOW2.out _ HB5.out).mono ?_
        rintro e w6 ⟨v, rfl, hrep, hB6⟩
        have HB6 := Lib.hid (HB5.out.trans (hB6.mono HB5.out.size))
        have Hz6 := Lib.hid (Hz5.out.later hB6)
        have Hq6 := Lib.hid (Hq5.out.later hB6)
        have hq6 := fun j => Hq6.out.cell j
        have hf6 := fun j => Hq6.out.froz j
        clear hB6 hc5
        obtain ⟨v1, v2, v3, rfl, hr1, hr2, hr3⟩ := hrep.val
        obtain ⟨a1, k1, rfl⟩ := hr1.val
        obtain ⟨a2, k2, rfl⟩ := hr2.val
        obtain ⟨a3, k3, rfl⟩ := hr3.val
        have H1 := Lib.hid hr1
        have H2 := Lib.hid hr2
        have H3 := Lib.hid hr3
        have hlt := Hq5.out.lt
        have hsz := HB5.out.size
        generalize hl1 : R.recs.length = n1 at *
        generalize hl2 : R.servers.length = n2 at *
        generalize hl3 : R.glue.length = n3 at *
        have HL := Lib.hid (And.intro hl1 (And.intro hl2 hl3))
        clear hrep hr1 hr2 hr3 hl1 hl2 hl3
        go_wp2
        refine bodyPost_ret (results_cell_pair rfl _ _ (w.heap.size + 1) 39 _ (0, 0) _ rfl (five_blk Hq6.out) Tryz.underlying39 rfl (by kernel_rfl)) rfl ?_
        exact ⟨_, rfl, ⟨_, _, _, rfl, (H1.out.five hlt).mono hsz, (H2.out.five hlt).mono hsz, (H3.out.five hlt).mono hsz⟩, five_lo HB6.out (by omega)⟩
      | false =>
        have hx2 : Rn.has l (⟨nm.toArray⟩ : ByteArray).data.toList = false := hx
        rw [hx2] at HEX
        rw [if_neg (by decide)]
        have HWI := Lib.hid (fun W (hW : Below w.heap.size w W) => wild_any B o za zc l nm W (henv.later hW).env (hr.later hW) hk.zone hin hx)
        unfold StrEnd zoneV at HWI
        obtain ⟨wi, hwi⟩ : ∃ wi, Rn.wild ⟨o, l⟩ nm = wi := ⟨_, rfl⟩
        rw [hwi] at HWI ⊢
        have HRC := Lib.hid (fun W (hW : Below w.heap.size w W) => records_any B o za zc l wi wi 0 W (hr.later hW) (by omega))
        unfold RcEnd zoneV at HRC
        obtain ⟨L1, hL1⟩ : ∃ L1, Rn.recsOf l wi 0 wi = L1 := ⟨_, rfl⟩
        rw [hL1] at HRC ⊢
        by_cases h1 : L1 = []
        · rw [if_neg (by simp [h1])]
          subst h1
          obtain ⟨ng, hng⟩ : ∃ ng, Rn.negOf l = ng := ⟨_, rfl⟩
          rw [hng] at HNG ⊢
          clear hr hs henv hq hk hl hin hcut hcut2 HOW hx hx2 hL1 hwi hng
          go_enter Tryz.func22, Tryz.ntmps22
          go_wp2_with fail
          generalize (w.alloc (.cells #[.string ⟨o.toArray⟩, .slice za l.length zc] 24)).alloc (.cells #[.int .i64 0, .slice none 0 0, .slice none 0 0, .slice none 0 0, .int .i64 0] 39) = w2 at *
          refine (HK.out _ HB.out).mono ?_
          rintro e w3 ⟨rfl, hB3⟩
          have HB3 := Lib.hid (HB.out.trans (hB3.mono HB.out.size))
          have Hz3 := Lib.hid (Hb1.out.later hB3)
          have Hq3 := Lib.hid (Hb2.out.later hB3)
          have hc3 := fun j => Hz3.out.cell j
          clear hB3
          go_wp2_with fail
          refine (HCU.out _ HB3.out).mono ?_
          rintro e w4 ⟨rfl, hB4⟩
          have HB4 := Lib.hid (HB3.out.trans (hB4.mono HB3.out.size))
          have Hz4 := Lib.hid (Hz3.out.later hB4)
          have Hq4 := Lib.hid (Hq3.out.later hB4)
          have hc4 := fun j => Hz4.out.cell j
          clear hB4 hc3
          go_wp2_with fail
          refine (HEX.out _ HB4.out).mono ?_
          rintro e w5 ⟨rfl, hB5⟩
          have HB5 := Lib.hid (HB4.out.trans (hB5.mono HB4.out.size))
          have Hz5 := Lib.hid (Hz4.out.later hB5)
          have Hq5 := Lib.hid (Hq4.out.later hB5)
          have hc5 := fun j => Hz5.out.cell j
          clear hB5 hc4
          go_wp2_with fail
          refine (HWI.out _ HB5.out).mono ?_
          rintro e w6 ⟨rfl, hB6⟩
          have HB6 := Lib.hid (HB5.out.trans (hB6.mono HB5.out.size))
          have Hz6 := Lib.hid (Hz5.out.later hB6)
          have Hq6 := Lib.hid (Hq5.out.later hB6)
          have hc6 := fun j => Hz6.out.cell j
          clear hB6 hc5
          go_wp2_with fail
          refine (HRC.out _ HB6.out).mono ?_
          rintro e w7 ⟨rv, rfl, hrow, hB7⟩
          have HB7 := Lib.hid (HB6.out.trans (hB7.mono HB6.out.size))
          have Hz7 := Lib.hid (Hz6.out.later hB7)
          have Hq7 := Lib.hid (Hq6.out.later hB7)
          have hc7 := fun j => Hz7.out.cell j
          clear hB7 hc6
          obtain ⟨ra, rc, rfl⟩ := hrow.val
          clear hrow
          dsimp only [List.length_nil]
          go_wp2_with fail
          refine (HNG.out _ HB7.out).mono ?_
          rintro e w8 ⟨rfl, hB8⟩
          have HB8 := Lib.hid (HB7.out.trans (hB8.mono HB7.out.size))
          have Hz8 := Lib.hid (Hz7.out.later hB8)
          have Hq8 := Lib.hid (Hq7.out.later hB8)
          have hq8 := fun j => Hq8.out.cell j
          have hf8 := fun j => Hq8.out.froz j
          clear hB8 hc7
          go_wp2
          refine bodyPost_ret (results_cell_pair rfl _ _ (w.heap.size + 1) 39 _ (0, 0) _ rfl (five_blk Hq8.out) Tryz.underlying39 rfl (by kernel_rfl)) rfl ?_
          exact ⟨_, rfl, ⟨_, _, _, rfl, rowR_nil _ _, rowR_nil _ _, rowR_nil _ _⟩, five_lo HB8.out (by omega)⟩
        · rw [if_pos h1]
          have hpos : (0 : Int) < (L1.length : Int) := by have := List.length_pos_iff.2 h1; omega
          obtain ⟨R, hR⟩ : ∃ R, Rn.owned ⟨o, l⟩ wi nm kd = R := ⟨_, rfl⟩
          have HOW2 := Lib.hid (HOW.out wi)
          rw [hR] at HOW2 ⊢
          clear hr hs henv hq hk hl hin hcut hcut2 HOW hR HNG hx hx2 hL1 hwi h1
          go_enter Tryz.func22, Tryz.ntmps22
          go_wp2_with fail
          generalize (w.alloc (.cells #[.string ⟨o.toArray⟩, .slice za l.length zc] 24)).alloc (.cells #[.int .i64 0, .slice none 0 0, .slice none 0 0, .slice none 0 0, .int .i64 0] 39) = w2 at *
          refine (HK.out _ HB.out).mono ?_
          rintro e w3 ⟨rfl, hB3⟩
          have HB3 := Lib.hid (HB.out.trans (hB3.mono HB.out.size))
          have Hz3 := Lib.hid (Hb1.out.later hB3)
          have Hq3 := Lib.hid (Hb2.out.later hB3)
          have hc3 := fun j => Hz3.out.cell j
          clear hB3
          go_wp2_with fail
          refine (HCU.out _ HB3.out).mono ?_
          rintro e w4 ⟨rfl, hB4⟩
          have HB4 := Lib.hid (HB3.out.trans (hB4.mono HB3.out.size))
          have Hz4 := Lib.hid (Hz3.out.later hB4)
          have Hq4 := Lib.hid (Hq3.out.later hB4)
          have hc4 := fun j => Hz4.out.cell j
          clear hB4 hc3
          go_wp2_with fail
          refine (HEX.out _ HB4.out).mono ?_
          rintro e w5 ⟨rfl, hB5⟩
          have HB5 := Lib.hid (HB4.out.trans (hB5.mono HB4.out.size))
          have Hz5 := Lib.hid (Hz4.out.later hB5)
          have Hq5 := Lib.hid (Hq4.out.later hB5)
          have hc5 := fun j => Hz5.out.cell j
          clear hB5 hc4
          go_wp2_with fail
          refine (HWI.out _ HB5.out).mono ?_
          rintro e w6 ⟨rfl, hB6⟩
          have HB6 := Lib.hid (HB5.out.trans (hB6.mono HB5.out.size))
          have Hz6 := Lib.hid (Hz5.out.later hB6)
          have Hq6 := Lib.hid (Hq5.out.later hB6)
          have hc6 := fun j => Hz6.out.cell j
          clear hB6 hc5
          go_wp2_with fail
          refine (HRC.out _ HB6.out).mono ?_
          rintro e w7 ⟨rv, rfl, hrow, hB7⟩
          have HB7 := Lib.hid (HB6.out.trans (hB7.mono HB6.out.size))
          have Hz7 := Lib.hid (Hz6.out.later hB7)
          have Hq7 := Lib.hid (Hq6.out.later hB7)
          have hc7 := fun j => Hz7.out.cell j
          clear hB7 hc6
          obtain ⟨ra, rc, rfl⟩ := hrow.val
          clear hrow
          go_wp2_with fail
          refine (HOW2.out _ HB7.out).mono ?_
          rintro e w8 ⟨v, rfl, hrep, hB8⟩
          have HB8 := Lib.hid (HB7.out.trans (hB8.mono HB7.out.size))
          have Hz8 := Lib.hid (Hz7.out.later hB8)
          have Hq8 := Lib.hid (Hq7.out.later hB8)
          have hq8 := fun j => Hq8.out.cell j
          have hf8 := fun j => Hq8.out.froz j
          clear hB8 hc7
          obtain ⟨v1, v2, v3, rfl, hr1, hr2, hr3⟩ := hrep.val
          obtain ⟨a1, k1, rfl⟩ := hr1.val
          obtain ⟨a2, k2, rfl⟩ := hr2.val
          obtain ⟨a3, k3, rfl⟩ := hr3.val
          have H1 := Lib.hid hr1
          have H2 := Lib.hid hr2
          have H3 := Lib.hid hr3
          have hlt := Hq7.out.lt
          have hsz := HB7.out.size
          generalize hl1 : R.recs.length = n1 at *
          generalize hl2 : R.servers.length = n2 at *
          generalize hl3 : R.glue.length = n3 at *
          have HL := Lib.hid (And.intro hl1 (And.intro hl2 hl3))
          clear hrep hr1 hr2 hr3 hl1 hl2 hl3
          go_wp2
          refine bodyPost_ret (results_cell_pair rfl _ _ (w.heap.size + 1) 39 _ (0, 0) _ rfl (five_blk Hq8.out) Tryz.underlying39 rfl (by kernel_rfl)) rfl ?_
          exact ⟨_, rfl, ⟨_, _, _, rfl, (H1.out.five hlt).mono hsz, (H2.out.five hlt).mono hsz, (H3.out.five hlt).mono hsz⟩, five_lo HB8.out (by omega)⟩
  · rw [if_pos hq]
    dsimp only
    generalize hqq : Rn.chk ⟨o, l⟩ nm kd = q at *
    have hqb : (q == 0) = false := beq_eq_false_iff_ne.2 hq
    have hqb2 : (q != 0) = true := by rw [bne, hqb]; rfl
    clear hr hs henv hq hqq
    go_enter Tryz.func22, Tryz.ntmps22
    go_wp2_with fail
    generalize (w.alloc (.cells #[.string ⟨o.toArray⟩, .slice za l.length zc] 24)).alloc (.cells #[.int .i64 0, .slice none 0 0, .slice none 0 0, .slice none 0 0, .int .i64 0] 39) = w2 at *
    refine (HK.out _ HB.out).mono ?_
    rintro e w3 ⟨rfl, hB3⟩
    have HB3 := Lib.hid (HB.out.trans (hB3.mono HB.out.size))
    have Hz3 := Lib.hid (Hb1.out.later hB3)
    have Hq3 := Lib.hid (Hb2.out.later hB3)
    clear hB3
    have hq3 := fun j => Hq3.out.cell j
    have hf3 := fun j => Hq3.out.froz j
    go_wp2
    refine bodyPost_ret (results_cell_pair rfl _ _ (w.heap.size + 1) 39 _ (0, 0) _ rfl (five_blk Hq3.out) Tryz.underlying39 rfl (by kernel_rfl)) rfl ?_
    exact ⟨_, rfl, ⟨_, _, _, rfl, rowR_nil _ _, rowR_nil _ _, rowR_nil _ _⟩, five_lo HB3.out (by omega)⟩
end Go.Proofs.YtajllcbjgndcpaaGreatDoor
