/- WALKS: one record in its zone; Cut. -/
import Derived.Test.YtajllcbjgndcpaaGreatDoorZ6
namespace Go.Proofs.YtajllcbjgndcpaaGreatDoor
open Go.RowKit Go.Maps

/-- A zone as a value. -/
def zoneV (o : Lb.Bs) (a : Option Addr) (n cap : Nat) : Value := .agg #[.string ⟨o.toArray⟩, .slice a n cap]
def UndEnd (n o : Lb.Bs) (w0 : World) (e : Ending) (w' : World) : Prop := ∃ q : Int, e = .returned (.tuple #[.bool (Zn.under n o), .int .i64 q]) ∧ (q = 0 ↔ Lb.check n = 0 ∧ Lb.check o = 0) ∧ Below w0.heap.size w0 w'
theorem under_all (s t : ByteArray) (w : World) (henv : Env w) : Calls Tryz.prog 30 #[.string s, .string t] w (UndEnd s.data.toList t.data.toList w) := by
  unfold UndEnd Zn.under
  by_cases h1 : Lb.check s.data.toList = 0
  · by_cases h2 : Lb.check t.data.toList = 0
    · rw [decide_eq_true h1, decide_eq_true h2, Bool.true_and, Bool.true_and]
      exact (under_fit s t w henv (Lb.check_fit.1 h1) (Lb.check_fit.1 h2)).mono fun e w' ⟨he, hb⟩ => ⟨0, he, by simp [h1, h2], hb⟩
    · rw [decide_eq_false h2, Bool.and_false, Bool.false_and]
      exact (under_bad2 s t w henv (Lb.check_fit.1 h1) h2).mono fun e w' ⟨he, hb⟩ => ⟨_, he, by simp [h2], hb⟩
  · rw [decide_eq_false h1, Bool.false_and, Bool.false_and]
    exact (under_bad1 s t w henv h1).mono fun e w' ⟨he, hb⟩ => ⟨_, he, by simp [h1], hb⟩
def RecEnd (o : Lb.Bs) (r : Cb.Rec) (w0 : World) (e : Ending) (w' : World) : Prop := e = .returned (.int .i64 (Zn.recE o r)) ∧ Below w0.heap.size w0 w'

set_option maxHeartbeats 6400000 in
set_option maxRecDepth 100000 in
theorem record_any (o : Lb.Bs) (za : Option Addr) (zn zc : Nat) (r : Cb.Rec) (hs : r.data.length ≤ 1048576) (w : World) (henv : EnvZ w) : Calls Tryz.prog 37 #[zoneV o za zn zc, .agg (recV r).toArray] w (RecEnd o r w) := by
  have HDA := Lib.hid (fun W (hW : Below w.heap.size w W) => data_any r hs W (henv.later hW))
  unfold DataEnd at HDA
  obtain ⟨nm, kd, ttl, dt⟩ := r
  unfold RecEnd Zn.recE zoneV
  unfold recV at *
  dsimp only at HDA ⊢
  have hBa : Below w.heap.size w ((w.alloc (.cells #[.string ⟨o.toArray⟩, .slice za zn zc] 24)).alloc (.cells #[.string ⟨nm.toArray⟩, .int .i64 kd, .int .i64 ttl, .string ⟨dt.toArray⟩] 43)) := ((Below.refl _ w).alloc (Nat.le_refl _) _).alloc (by simp) _
  have hb1 : ((w.alloc (.cells #[.string ⟨o.toArray⟩, .slice za zn zc] 24)).alloc (.cells #[.string ⟨nm.toArray⟩, .int .i64 kd, .int .i64 ttl, .string ⟨dt.toArray⟩] 43)).heap[w.heap.size]? = some (.cells #[.string ⟨o.toArray⟩, .slice za zn zc] 24 (0, 0)) := by
    rw [Below.heap_alloc _ _ _ (by simp), heap_alloc_new]
  have hb2 : ((w.alloc (.cells #[.string ⟨o.toArray⟩, .slice za zn zc] 24)).alloc (.cells #[.string ⟨nm.toArray⟩, .int .i64 kd, .int .i64 ttl, .string ⟨dt.toArray⟩] 43)).heap[w.heap.size + 1]? = some (.cells #[.string ⟨nm.toArray⟩, .int .i64 kd, .int .i64 ttl, .string ⟨dt.toArray⟩] 43 (0, 0)) := by
    have := heap_alloc_new (w.alloc (.cells #[.string ⟨o.toArray⟩, .slice za zn zc] 24)) (.cells #[.string ⟨nm.toArray⟩, .int .i64 kd, .int .i64 ttl, .string ⟨dt.toArray⟩] 43)
    simpa using this
  have HC := Lib.hid (show Calls Tryz.prog 15 #[.string ⟨nm.toArray⟩] _ fun e w' => e = .returned (.int .i64 (Lb.check nm)) ∧ Below _ _ w' from check_any ⟨nm.toArray⟩ _ (henv.later hBa).env)
  have HU := Lib.hid (fun W (hW : Below w.heap.size w W) => (show Calls Tryz.prog 30 #[.string ⟨nm.toArray⟩, .string ⟨o.toArray⟩] W (UndEnd nm o W) from under_all ⟨nm.toArray⟩ ⟨o.toArray⟩ W (henv.later hW).env))
  unfold UndEnd at HU
  obtain ⟨q, hq⟩ : ∃ q, Lb.check nm = q := ⟨_, rfl⟩
  obtain ⟨u, hu⟩ : ∃ u, Zn.under nm o = u := ⟨_, rfl⟩
  obtain ⟨dk, hdk⟩ : ∃ dk, Zn.dataOk ⟨nm, kd, ttl, dt⟩ = dk := ⟨_, rfl⟩
  rw [hq] at HC
  rw [hu] at HU
  rw [hdk] at HDA
  have key : ∀ k : Int, (if q ≠ 0 then q else if u = false then 10 else if kd < 1 ∨ kd > 5 ∨ ttl < 0 ∨ ttl > 1000000 then 1 else if dk = false then 3 else 0) = k →
      Calls Tryz.prog 37 #[.agg #[.string ⟨o.toArray⟩, .slice za zn zc], .agg #[.string ⟨nm.toArray⟩, .int .i64 kd, .int .i64 ttl, .string ⟨dt.toArray⟩]] w fun e w' => e = .returned (.int .i64 k) ∧ Below w.heap.size w w' := by
    intro k hk
    have Hb1 := Lib.hid hb1
    have Hb2 := Lib.hid hb2
    have HBa := Lib.hid hBa
    clear hq hu hdk hb1 hb2 hBa
    by_cases hq0 : q = 0
    · rw [if_neg (by simp [hq0])] at hk
      have hqb : (q == 0) = true := by rw [beq_iff_eq]; exact hq0
      have hqb2 : (q != 0) = false := by rw [bne, hqb]; rfl
      clear hq0
      cases u with
      | false =>
        rw [if_pos rfl] at hk
        have Hk := Lib.hid hk
        clear hk
        go_enter Tryz.func37, Tryz.ntmps37
        go_wp2_with fail
        refine HC.out.mono ?_
        rintro e w1 ⟨rfl, hB⟩
        have hB1 := HBa.out.trans (hB.mono HBa.out.size)
        have hc1 := fun j => cell_of_row w1 w.heap.size j _ _ _ ((hB.block _ (Array.getElem?_eq_some_iff.1 Hb1.out).1).trans Hb1.out)
        have hc2 := fun j => cell_of_row w1 (w.heap.size + 1) j _ _ _ ((hB.block _ (Array.getElem?_eq_some_iff.1 Hb2.out).1).trans Hb2.out)
        clear hB
        go_wp2_with fail
        refine (HU.out _ hB1).mono ?_
        rintro e w2 ⟨q2, rfl, -, hB2⟩
        have hB3 := hB1.trans (hB2.mono hB1.size)
        clear hB2
        go_wp2
        go_ret
        exact ⟨by rw [← Hk.out]; rfl, hB3⟩
      | true =>
        rw [if_neg (by decide)] at hk
        have hcases : (kd < 1 ∨ (¬ kd < 1 ∧ kd > 5) ∨ (¬ kd < 1 ∧ ¬ kd > 5 ∧ ttl < 0) ∨ (¬ kd < 1 ∧ ¬ kd > 5 ∧ ¬ ttl < 0 ∧ ttl > 1000000)) ∨ (¬ kd < 1 ∧ ¬ kd > 5 ∧ ¬ ttl < 0 ∧ ¬ ttl > 1000000) := by omega
        rcases hcases with hbad | ⟨h1, h2, h3, h4⟩
        · rw [if_pos (by omega)] at hk
          have Hk := Lib.hid hk
          clear hk
          rcases hbad with h1 | ⟨h1, h2⟩ | ⟨h1, h2, h3⟩ | ⟨h1, h2, h3, h4⟩
          all_goals
            go_enter Tryz.func37, Tryz.ntmps37
            go_wp2_with fail
            refine HC.out.mono ?_
            rintro e w1 ⟨rfl, hB⟩
            have hB1 := HBa.out.trans (hB.mono HBa.out.size)
            have hx2 := (hB.block _ (Array.getElem?_eq_some_iff.1 Hb2.out).1).trans Hb2.out
            have hc1 := fun j => cell_of_row w1 w.heap.size j _ _ _ ((hB.block _ (Array.getElem?_eq_some_iff.1 Hb1.out).1).trans Hb1.out)
            have hc2 := fun j => cell_of_row w1 (w.heap.size + 1) j _ _ _ hx2
            have Hx2 := Lib.hid hx2
            clear hB hx2
            go_wp2_with fail
            refine (HU.out _ hB1).mono ?_
            rintro e w2 ⟨q2, rfl, -, hB2⟩
            have hB3 := hB1.trans (hB2.mono hB1.size)
            have hx3 := (hB2.block _ (Array.getElem?_eq_some_iff.1 Hx2.out).1).trans Hx2.out
            have hd2 := fun j => cell_of_row w2 (w.heap.size + 1) j _ _ _ hx3
            clear hB2 hc1 hc2 hx3
            go_wp2
            go_ret
            exact ⟨by rw [← Hk.out]; rfl, hB3⟩
        · rw [if_neg (by omega)] at hk
          cases dk with
          | false =>
            rw [if_pos rfl] at hk
            have Hk := Lib.hid hk
            clear hk
            go_enter Tryz.func37, Tryz.ntmps37
            go_wp2_with fail
            refine HC.out.mono ?_
            rintro e w1 ⟨rfl, hB⟩
            have hB1 := HBa.out.trans (hB.mono HBa.out.size)
            have hx2 := (hB.block _ (Array.getElem?_eq_some_iff.1 Hb2.out).1).trans Hb2.out
            have hc1 := fun j => cell_of_row w1 w.heap.size j _ _ _ ((hB.block _ (Array.getElem?_eq_some_iff.1 Hb1.out).1).trans Hb1.out)
            have hc2 := fun j => cell_of_row w1 (w.heap.size + 1) j _ _ _ hx2
            have Hx2 := Lib.hid hx2
            clear hB hx2
            go_wp2_with fail
            refine (HU.out _ hB1).mono ?_
            rintro e w2 ⟨q2, rfl, -, hB2⟩
            have hB3 := hB1.trans (hB2.mono hB1.size)
            have hx3 := (hB2.block _ (Array.getElem?_eq_some_iff.1 Hx2.out).1).trans Hx2.out
            have hd2 := fun j => cell_of_row w2 (w.heap.size + 1) j _ _ _ hx3
            clear hB2 hc1 hc2 hx3
            go_wp2_with fail
            refine (HDA.out _ hB3).mono ?_
            rintro e w3 ⟨rfl, hB4⟩
            have hB5 := hB3.trans (hB4.mono hB3.size)
            clear hB4
            go_wp2
            go_ret
            exact ⟨by rw [← Hk.out]; rfl, hB5⟩
          | true =>
            rw [if_neg (by decide)] at hk
            have Hk := Lib.hid hk
            clear hk
            go_enter Tryz.func37, Tryz.ntmps37
            go_wp2_with fail
            refine HC.out.mono ?_
            rintro e w1 ⟨rfl, hB⟩
            have hB1 := HBa.out.trans (hB.mono HBa.out.size)
            have hx2 := (hB.block _ (Array.getElem?_eq_some_iff.1 Hb2.out).1).trans Hb2.out
            have hc1 := fun j => cell_of_row w1 w.heap.size j _ _ _ ((hB.block _ (Array.getElem?_eq_some_iff.1 Hb1.out).1).trans Hb1.out)
            have hc2 := fun j => cell_of_row w1 (w.heap.size + 1) j _ _ _ hx2
            have Hx2 := Lib.hid hx2
            clear hB hx2
            go_wp2_with fail
            refine (HU.out _ hB1).mono ?_
            rintro e w2 ⟨q2, rfl, -, hB2⟩
            have hB3 := hB1.trans (hB2.mono hB1.size)
            have hx3 := (hB2.block _ (Array.getElem?_eq_some_iff.1 Hx2.out).1).trans Hx2.out
            have hd2 := fun j => cell_of_row w2 (w.heap.size + 1) j _ _ _ hx3
            clear hB2 hc1 hc2 hx3
            go_wp2_with fail
            refine (HDA.out _ hB3).mono ?_
            rintro e w3 ⟨rfl, hB4⟩
            have hB5 := hB3.trans (hB4.mono hB3.size)
            clear hB4
            go_wp2
            go_ret
            exact ⟨by rw [← Hk.out]; rfl, hB5⟩
    · rw [if_pos hq0] at hk
      have hqb : (q == 0) = false := beq_eq_false_iff_ne.2 hq0
      have hqb2 : (q != 0) = true := by rw [bne, hqb]; rfl
      have Hk := Lib.hid hk
      clear hq0 hk
      go_enter Tryz.func37, Tryz.ntmps37
      go_wp2_with fail
      refine HC.out.mono ?_
      rintro e w1 ⟨rfl, hB⟩
      have hB1 := HBa.out.trans (hB.mono HBa.out.size)
      clear hB
      go_wp2
      go_ret
      exact ⟨by rw [← Hk.out]; rfl, hB1⟩
  rw [hq, hu, hdk]
  exact key _ rfl
end Go.Proofs.YtajllcbjgndcpaaGreatDoor
