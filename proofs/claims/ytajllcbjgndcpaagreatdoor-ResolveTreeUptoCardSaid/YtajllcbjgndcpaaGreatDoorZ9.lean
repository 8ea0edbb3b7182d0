/- WALKS: agrees. -/
import Derived.Test.YtajllcbjgndcpaaGreatDoorZ8
namespace Go.Proofs.YtajllcbjgndcpaaGreatDoor
open Go.RowKit Go.Maps

theorem filter_next {α : Type} (p : α → Bool) {l : List α} {k : Nat} {x : α} (h : l[k]? = some x) : ((l.take (k + 1)).filter p).length = ((l.take k).filter p).length + if p x = true then 1 else 0 := by
  rw [List.take_add_one, h, List.filter_append, List.length_append]
  congr 1
  cases hp : p x <;> simp [hp]
theorem filter_le {α : Type} (p : α → Bool) (l : List α) (k : Nat) : ((l.take k).filter p).length ≤ k := Nat.le_trans (List.length_filter_le _ _) (List.length_take_le _ _)
def AgInv (l : List Cb.Rec) (nm : Lb.Bs) (w0 : World) (k A O : Nat) (wr : World) : Prop := Zn.aliases (l.take k) nm = A ∧ Zn.others (l.take k) nm = O ∧ A ≤ k ∧ O ≤ k ∧ Below w0.heap.size w0 wr
def AgEnd (z : Zn.Zone) (r : Cb.Rec) (w0 : World) (e : Ending) (w' : World) : Prop := e = .returned (.bool (Zn.agrees z r)) ∧ Below w0.heap.size w0 w'

set_option maxHeartbeats 6400000 in
set_option maxRecDepth 100000 in
theorem agrees_any (B : Nat) (o : Lb.Bs) (za : Option Addr) (zc : Nat) (l : List Cb.Rec) (r : Cb.Rec) (w : World) (henv : Env w) (hr : Recs B w (.slice za l.length zc) l) : Calls Tryz.prog 39 #[zoneV o za l.length zc, .agg (recV r).toArray] w (AgEnd ⟨o, l⟩ r w) := by
  obtain ⟨rn, rk, rt, rd⟩ := r
  unfold zoneV recV
  dsimp only
  have hBa : Below w.heap.size w ((w.alloc (.cells #[.string ⟨o.toArray⟩, .slice za l.length zc] 24)).alloc (.cells #[.string ⟨rn.toArray⟩, .int .i64 rk, .int .i64 rt, .string ⟨rd.toArray⟩] 43)) := ((Below.refl _ w).alloc (Nat.le_refl _) _).alloc (by simp) _
  have hb1 : ((w.alloc (.cells #[.string ⟨o.toArray⟩, .slice za l.length zc] 24)).alloc (.cells #[.string ⟨rn.toArray⟩, .int .i64 rk, .int .i64 rt, .string ⟨rd.toArray⟩] 43)).heap[w.heap.size]? = some (.cells #[.string ⟨o.toArray⟩, .slice za l.length zc] 24 (0, 0)) := by
    rw [Below.heap_alloc _ _ _ (by simp), heap_alloc_new]
  have hb2 : ((w.alloc (.cells #[.string ⟨o.toArray⟩, .slice za l.length zc] 24)).alloc (.cells #[.string ⟨rn.toArray⟩, .int .i64 rk, .int .i64 rt, .string ⟨rd.toArray⟩] 43)).heap[w.heap.size + 1]? = some (.cells #[.string ⟨rn.toArray⟩, .int .i64 rk, .int .i64 rt, .string ⟨rd.toArray⟩] 43 (0, 0)) := by
    have := heap_alloc_new (w.alloc (.cells #[.string ⟨o.toArray⟩, .slice za l.length zc] 24)) (.cells #[.string ⟨rn.toArray⟩, .int .i64 rk, .int .i64 rt, .string ⟨rd.toArray⟩] 43)
    simpa using this
  have HBa := Lib.hid hBa
  have Hb1 := Lib.hid hb1
  have Hb2 := Lib.hid hb2
  have HR := Lib.hid (hr.later hBa)
  have hlen : l.length ≤ 9223372036854775807 := by have := (recs_cap hr).2; unfold maxLen at this; omega
  clear hBa hb1 hb2 hr
  go_enter Tryz.func39, Tryz.ntmps39
  go_wp2
  generalize (w.alloc (.cells #[.string ⟨o.toArray⟩, .slice za l.length zc] 24)).alloc (.cells #[.string ⟨rn.toArray⟩, .int .i64 rk, .int .i64 rt, .string ⟨rd.toArray⟩] 43) = w1 at *
  go_loopw [5, 6, 14] (fun av ov kv wr => ∃ (k A O : Nat), k ≤ l.length ∧ kv = .int .i64 k ∧ av = .int .i64 (A : Int) ∧ ov = .int .i64 (O : Int) ∧ Hid (AgInv l rn w1 k A O wr)) (fun _ _ kv _ => l.length - (intOf kv).toNat)
  case atStart => exact ⟨0, 0, 0, Nat.zero_le _, rfl, rfl, rfl, ⟨rfl, rfl, Nat.le_refl _, Nat.le_refl _, Below.refl _ _⟩⟩
  case round =>
    obtain ⟨k, A, O, hk, rfl, rfl, rfl, HI⟩ := hrel
    have hA := HI.out.2.2.1
    have hO := HI.out.2.2.2.1
    have hBw := HI.out.2.2.2.2
    have hx1 := (hBw.block _ (Array.getElem?_eq_some_iff.1 Hb1.out).1).trans Hb1.out
    have hx2 := (hBw.block _ (Array.getElem?_eq_some_iff.1 Hb2.out).1).trans Hb2.out
    have Hx1 := Lib.hid hx1
    have Hx2 := Lib.hid hx2
    by_cases hlt : k < l.length
    · obtain ⟨x, hx⟩ : ∃ x, l[k]? = some x := ⟨l[k], List.getElem?_eq_getElem hlt⟩
      obtain ⟨b, p, rfl, hb, c0, c1, c2, c3⟩ := recs_at (HR.out.later hBw) hx
      have hi0 : (0 : Int) ≤ (k : Int) := by omega
      have hi1 : (k : Int) < (l.length : Int) := by omega
      have hfa := filter_next (fun x : Cb.Rec => decide (x.name = rn ∧ x.kind = 2)) hx
      have hfo := filter_next (fun x : Cb.Rec => decide (x.name = rn ∧ x.kind ≠ 2)) hx
      have hr0 : wr.cell? ⟨w.heap.size + 1, 0, none⟩ = some (.string ⟨rn.toArray⟩) := by rw [cell_of_row wr _ 0 _ _ _ hx2]; rfl
      have hBr := (hBw.alloc hBw.size (.cells #[.string ⟨x.name.toArray⟩, .int .i64 x.kind, .int .i64 x.ttl, .string ⟨x.data.toArray⟩] 43))
      have HBr := Lib.hid hBr
      have hne : w.heap.size + 1 < wr.heap.size := (Array.getElem?_eq_some_iff.1 hx2).1
      obtain ⟨xn, xk, xt, xd⟩ := x
      dsimp only at *
      have HI' := Lib.hid (show ∀ A' O', (A + if decide (xn = rn ∧ xk = 2) = true then 1 else 0) = A' → (O + if decide (xn = rn ∧ xk ≠ 2) = true then 1 else 0) = O' → AgInv l rn w1 (k + 1) A' O' (wr.alloc (.cells #[.string ⟨xn.toArray⟩, .int .i64 xk, .int .i64 xt, .string ⟨xd.toArray⟩] 43)) from by
        intro A' O' h1 h2
        have e1 : Zn.aliases (l.take (k + 1)) rn = A' := by rw [← h1, ← HI.out.1]; exact hfa
        have e2 : Zn.others (l.take (k + 1)) rn = O' := by rw [← h2, ← HI.out.2.1]; exact hfo
        refine ⟨e1, e2, ?_, ?_, hBr⟩
        · rw [← e1]; exact filter_le _ _ _
        · rw [← e2]; exact filter_le _ _ _)
      clear hx hfa hfo hx1 hx2 hBr hBw
      by_cases hn : xn = rn
      · subst hn
        by_cases hk2 : xk = 2
        · have hkb : (xk == 2) = true := by rw [beq_iff_eq]; exact hk2
          have Hinv := Lib.hid (HI'.out (A + 1) O (by simp [hk2]) (by simp [hk2]))
          clear hk2
          go_wp2
          refine ⟨⟨k + 1, A + 1, O, by omega, by go_num, by go_num, rfl, Hinv.out⟩, by simp [intOf]; omega⟩
        · have hkb : (xk == 2) = false := beq_eq_false_iff_ne.2 hk2
          have Hinv := Lib.hid (HI'.out A (O + 1) (by simp [hk2]) (by simp [hk2]))
          clear hk2
          go_wp2
          refine ⟨⟨k + 1, A, O + 1, by omega, by go_num, rfl, by go_num, Hinv.out⟩, by simp [intOf]; omega⟩
      · have hnb : (xn == rn) = false := beq_eq_false_iff_ne.2 hn
        have hnb2 : (xn != rn) = true := by rw [bne, hnb]; rfl
        have Hinv := Lib.hid (HI'.out A O (by simp [hn]) (by simp [hn]))
        clear hn
        go_wp2
        refine ⟨⟨k + 1, A, O, by omega, by go_num, rfl, rfl, Hinv.out⟩, by simp [intOf]; omega⟩
    · obtain rfl : k = l.length := by omega
      have hAl := HI.out.1
      have hOl := HI.out.2.1
      rw [List.take_length] at hAl hOl
      have HBt := Lib.hid (HBa.out.trans (hBw.mono HBa.out.size))
      have hCut : Calls Tryz.prog 17 #[.agg #[.string ⟨o.toArray⟩, .slice za l.length zc], .string ⟨rn.toArray⟩] wr (CutEnd ⟨o, l⟩ rn wr) := cut_any B o za zc l ⟨rn.toArray⟩ wr (henv.later HBt.out) (HR.out.later hBw)
      unfold CutEnd at hCut
      have hG : Zn.agrees ⟨o, l⟩ ⟨rn, rk, rt, rd⟩ = (if A > 1 ∨ A = 1 ∧ O > 0 then false else if rk = 5 ∧ rn ≠ o then false else match Zn.cutF ⟨o, l⟩ rn with | some c => if c = rn then decide (rk = 3 ∨ rk = 1) else decide (rk = 1) | none => true) := by
        unfold Zn.agrees
        rw [hAl, hOl]
        rfl
      obtain ⟨ct, hct⟩ : ∃ ct, Zn.cutF ⟨o, l⟩ rn = ct := ⟨_, rfl⟩
      rw [hct] at hG hCut
      have HC := Lib.hid hCut
      have hc1 := fun j => cell_of_row wr w.heap.size j _ _ _ hx1
      have hc2 := fun j => cell_of_row wr (w.heap.size + 1) j _ _ _ hx2
      clear hAl hOl hct hCut hx1 hx2 hBw
      go_wp2_with fail
      refine HC.out.mono ?_
      rintro e w2 ⟨rfl, hB2⟩
      have HBe := Lib.hid (HBt.out.trans (hB2.mono HBt.out.size))
      have hc1 := fun j => cell_of_row w2 w.heap.size j _ _ _ ((hB2.block _ (Array.getElem?_eq_some_iff.1 Hx1.out).1).trans Hx1.out)
      have hc2 := fun j => cell_of_row w2 (w.heap.size + 1) j _ _ _ ((hB2.block _ (Array.getElem?_eq_some_iff.1 Hx2.out).1).trans Hx2.out)
      clear hB2 HC
      have hcases : (A > 1) ∨ (¬ A > 1 ∧ A = 1 ∧ O > 0) ∨ (¬ A > 1 ∧ A = 1 ∧ ¬ O > 0) ∨ (¬ A > 1 ∧ ¬ A = 1) := by omega
      rcases hcases with h1 | ⟨h1, h2, h3⟩ | hok
      · rw [if_pos (.inl h1)] at hG
        have HG := Lib.hid hG
        have h1' : (A : Int) > 1 := by omega
        clear hG
        go_wp2
        go_ret
        exact ⟨by rw [HG.out]; rfl, HBe.out⟩
      · rw [if_pos (.inr ⟨h2, h3⟩)] at hG
        have HG := Lib.hid hG
        have h1' : ¬ (A : Int) > 1 := by omega
        have h2' : ((A : Int) == 1) = true := by rw [beq_iff_eq]; omega
        have h3' : (O : Int) > 0 := by omega
        clear hG h2
        go_wp2
        go_ret
        exact ⟨by rw [HG.out]; rfl, HBe.out⟩
      · rw [if_neg (by omega)] at hG
        have h1' : ¬ (A : Int) > 1 := by omega
        have hok' : (((A : Int) == 1) = true ∧ ¬ (O : Int) > 0) ∨ (((A : Int) == 1) = false) := by
          by_cases e : A = 1
          · exact .inl ⟨by rw [beq_iff_eq]; omega, by omega⟩
          · exact .inr (by rw [beq_eq_false_iff_ne]; omega)
        clear hok
        by_cases hs : rk = 5 ∧ rn ≠ o
        · rw [if_pos hs] at hG
          have HG := Lib.hid hG
          have hkb : (rk == 5) = true := by rw [beq_iff_eq]; exact hs.1
          have hnb : (rn == o) = false := beq_eq_false_iff_ne.2 hs.2
          have hnb2 : (rn != o) = true := by rw [bne, hnb]; rfl
          clear hG hs
          rcases hok' with ⟨h2', h3'⟩ | h2'
          all_goals
            go_wp2
            go_ret
            exact ⟨by rw [HG.out]; rfl, HBe.out⟩
        · rw [if_neg hs] at hG
          have hs' : ((rk == 5) = true ∧ (rn == o) = true ∧ (rn != o) = false) ∨ ((rk == 5) = false) := by
            by_cases e : rk = 5
            · have e2 : rn = o := Decidable.of_not_not (fun e2 => hs ⟨e, e2⟩)
              exact .inl ⟨by rw [beq_iff_eq]; exact e, by rw [beq_iff_eq]; exact e2, by rw [bne, e2]; simp⟩
            · exact .inr (beq_eq_false_iff_ne.2 e)
          clear hs
          cases ct with
          | none =>
            have HG := Lib.hid hG
            dsimp only [Option.getD_none, Option.isSome_none]
            clear hG
            rcases hok' with ⟨h2', h3'⟩ | h2' <;> rcases hs' with ⟨h4', h5', h6'⟩ | h4'
            all_goals
              go_wp2
              go_ret
              exact ⟨by rw [HG.out]; rfl, HBe.out⟩
          | some c =>
            dsimp only [Option.getD_some, Option.isSome_some]
            dsimp only at hG
            by_cases hcr : c = rn
            · rw [if_pos hcr] at hG
              have hcb : (c == rn) = true := by rw [beq_iff_eq]; exact hcr
              have HG := Lib.hid hG
              clear hG hcr
              have h31 : ((rk == 3) = true ∧ decide (rk = 3 ∨ rk = 1) = true) ∨ ((rk == 3) = false ∧ (rk == 1) = decide (rk = 3 ∨ rk = 1)) := by
                by_cases e : rk = 3
                · exact .inl ⟨by rw [beq_iff_eq]; exact e, by simp [e]⟩
                · refine .inr ⟨beq_eq_false_iff_ne.2 e, ?_⟩
                  rw [Bool.eq_iff_iff]; simp [e]
              generalize decide (rk = 3 ∨ rk = 1) = bb at *
              rcases h31 with ⟨h7', rfl⟩ | ⟨h7', h8'⟩
              · rcases hok' with ⟨h2', h3'⟩ | h2' <;> rcases hs' with ⟨h4', h5', h6'⟩ | h4'
                all_goals
                  go_wp2
                  go_ret
                  exact ⟨by rw [HG.out]; rfl, HBe.out⟩
              · have H8 := Lib.hid h8'
                clear h8'
                rcases hok' with ⟨h2', h3'⟩ | h2' <;> rcases hs' with ⟨h4', h5', h6'⟩ | h4'
                all_goals
                  go_wp2
                  go_ret
                  exact ⟨by rw [HG.out, ← H8.out]; rfl, HBe.out⟩
            · rw [if_neg hcr] at hG
              have hcb : (c == rn) = false := beq_eq_false_iff_ne.2 hcr
              have h8' : (rk == 1) = decide (rk = 1) := by rw [Bool.eq_iff_iff]; simp
              have H8 := Lib.hid h8'
              have HG := Lib.hid hG
              clear hG hcr h8'
              rcases hok' with ⟨h2', h3'⟩ | h2' <;> rcases hs' with ⟨h4', h5', h6'⟩ | h4'
              all_goals
                go_wp2
                go_ret
                exact ⟨by rw [HG.out, ← H8.out]; rfl, HBe.out⟩
end Go.Proofs.YtajllcbjgndcpaaGreatDoor
