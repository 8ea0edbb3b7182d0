/- WALK: Put, where the times are wrong. -/
import Derived.Test.YtajllcbjgndcpaaGreatDoorK11
namespace Go.Proofs.YtajllcbjgndcpaaGreatDoor
open Go.RowKit Go.Maps
section
variable {B pb : Nat} {c : Cb.Cac} {xs : List EV} {v : Value}
theorem ROk.later {w w' : World} {x : RP} (h : ROk B w x) (hb : Below w.heap.size w w') : ROk B w' x := ⟨h.r.later hb, h.s, h.g⟩

set_option maxHeartbeats 6400000 in
theorem put_life (w : World) (henv : Env w) (h : Cch B pb w c xs v) (s : ByteArray) (kind now : Int) (x : RP) (hx : ROk B w x) (hk : Cb.chk c s.data.toList kind now = 0) (hc : ¬ (x.p.code < 1 ∨ x.p.code > 5 ∨ x.p.code = 3)) (hf : ¬ Cb.illForm x.p)
    (hl : Cb.life x.p < 0 ∨ Cb.life x.p > 1000000 ∨ x.p.recs.any Cb.badT = true) :
    Calls Tryz.prog 76 #[.pointer (some ⟨pb, 0, none⟩), .string s, .int .i64 kind, .agg (rpV x).toArray, .int .i64 now] w (StoreEnd B pb c s.data.toList kind x.p now w) := by
  have hq : Cb.putErr c s.data.toList kind x.p now = 1 := by unfold Cb.putErr; rw [if_neg (by simp [hk]), if_neg hc, if_neg hf, if_pos hl]
  have hE := fun w' (hb : Below w.heap.size w w') => put_refuses (w' := w') (r := x.p) h hq (by decide) hb
  obtain ⟨hm, h60, hs0, hg0⟩ := Cb.form_recs hf
  have hL := fun w' (hb : Below w.heap.size w w') => life_any B x w' (hx.later hb)
  have hA := fun w' (hb : Below w.heap.size w w') => contains_any B x.ra x.rc x.p.recs w' (hx.r.later hb)
  obtain ⟨⟨code, recs, ns, ng, neg⟩, ra, rc, sa, sc, ga, gc⟩ := x
  unfold rpV at *
  simp only at hq hE hc hm h60 hs0 hg0 hL hA hl ⊢
  subst hs0 hg0
  have hBa : Below w.heap.size w (w.alloc (.cells #[.int .i64 code, .slice ra recs.length rc, .slice sa 0 sc, .slice ga 0 gc, .int .i64 neg] 39)) := (Below.refl _ w).alloc (Nat.le_refl _) _
  have HC := check_cache_any _ (henv.later hBa) (h.later hBa) s kind now
  rw [hk] at HC
  have HC := Lib.hid HC
  have HE := Lib.hid hE
  have HL := Lib.hid hL
  have HA := Lib.hid hA
  have hcode : code = 1 ∨ code = 2 ∨ code = 4 ∨ code = 5 := by omega
  clear hq hE hk h hf hx hL hA
  generalize Cb.life ⟨code, recs, 0, 0, neg⟩ = q at *
  generalize recs.any Cb.badT = bad at *
  have hl' : q < 0 ∨ (¬ q < 0 ∧ q > 1000000) ∨ (¬ q < 0 ∧ ¬ q > 1000000 ∧ bad = true) := by
    rcases hl with hl | hl | hl
    · exact .inl hl
    · exact .inr (.inl ⟨by omega, hl⟩)
    · by_cases h1 : q < 0
      · exact .inl h1
      · by_cases h2 : q > 1000000
        · exact .inr (.inl ⟨h1, h2⟩)
        · exact .inr (.inr ⟨h1, h2, hl⟩)
  generalize hn : recs.length = n at *
  clear hc hn hl
  rcases hcode with rfl | rfl | rfl | rfl
  all_goals first | (have hl : decide (0 < n) = false := by rw [decide_eq_false_iff_not]; omega) | (have hl : decide (0 < n) = true := by rw [decide_eq_true_iff]; omega)
  all_goals clear hm
  all_goals rcases hl' with h1 | ⟨h1, h2⟩ | ⟨h1, h2, rfl⟩
  all_goals
    go_enter Tryz.func76, Tryz.ntmps76
    go_wp2_with fail
    refine HC.out.mono ?_
    rintro e w1 ⟨rfl, hB⟩
    have bx := box_cells hB
    have hB1 := hBa.trans (hB.mono hBa.size)
    have hlt1 : w.heap.size < w1.heap.size := by have := hB.size; simp at this; omega
    clear HC
    go_wp2_with fail
    refine (HL.out _ hB1).mono ?_
    rintro e w2 ⟨rfl, hb2⟩
    have hB2 := hB1.trans (hb2.mono hB1.size)
    have bx2 := fun j => (hb2.cell (p := ⟨w.heap.size, j, none⟩) hlt1).trans (bx j)
    have hend := HE.out _ hB2
    clear bx
    first
    | (go_wp2; go_ret; exact hend)
    | (go_wp2_with fail
       refine (HA.out _ hB2).mono ?_
       rintro e w3 ⟨rfl, hb3⟩
       have hend2 := HE.out _ (hB2.trans (hb3.mono hB2.size))
       go_wp2
       go_ret
       exact hend2)
end
end Go.Proofs.YtajllcbjgndcpaaGreatDoor
