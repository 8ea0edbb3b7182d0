/- WALK: Put, where the answer's form or its times are wrong. -/
import Derived.Test.YtajllcbjgndcpaaGreatDoorK10
namespace Go.Proofs.YtajllcbjgndcpaaGreatDoor
open Go.RowKit Go.Maps
section
variable {B pb : Nat} {c : Cb.Cac} {xs : List EV} {v : Value}
theorem form_parts {r : Cb.Rp} (h : Cb.illForm r) : (¬ ((r.code = 1 ∨ r.code = 2) ↔ 0 < r.recs.length)) ∨ (((r.code = 1 ∨ r.code = 2) ↔ 0 < r.recs.length) ∧ (r.recs.length > 60 ∨ (¬ r.recs.length > 60 ∧ r.ns > 0) ∨ (¬ r.recs.length > 60 ∧ ¬ r.ns > 0 ∧ r.ng > 0))) := by
  unfold Cb.illForm at h
  by_cases hm : ((r.code = 1 ∨ r.code = 2) ↔ 0 < r.recs.length)
  · refine .inr ⟨hm, ?_⟩
    rcases h with h | h | h | h
    · exact absurd (decide_eq_decide.2 hm) h
    · exact .inl h
    · by_cases h6 : r.recs.length > 60
      · exact .inl h6
      · exact .inr (.inl ⟨h6, h⟩)
    · by_cases h6 : r.recs.length > 60
      · exact .inl h6
      · by_cases h7 : r.ns > 0
        · exact .inr (.inl ⟨h6, h7⟩)
        · exact .inr (.inr ⟨h6, h7, h⟩)
  · exact .inl hm

set_option maxHeartbeats 6400000 in
theorem put_form (w : World) (henv : Env w) (h : Cch B pb w c xs v) (s : ByteArray) (kind now : Int) (x : RP) (hk : Cb.chk c s.data.toList kind now = 0) (hc : ¬ (x.p.code < 1 ∨ x.p.code > 5 ∨ x.p.code = 3)) (hf : Cb.illForm x.p) :
    Calls Tryz.prog 76 #[.pointer (some ⟨pb, 0, none⟩), .string s, .int .i64 kind, .agg (rpV x).toArray, .int .i64 now] w (StoreEnd B pb c s.data.toList kind x.p now w) := by
  have hq : Cb.putErr c s.data.toList kind x.p now = 3 := by unfold Cb.putErr; rw [if_neg (by simp [hk]), if_neg hc, if_pos hf]
  have hE := fun w' (hb : Below w.heap.size w w') => put_refuses (w' := w') (r := x.p) h hq (by decide) hb
  have hD := form_parts hf
  obtain ⟨⟨code, recs, ns, ng, neg⟩, ra, rc, sa, sc, ga, gc⟩ := x
  unfold rpV
  simp only at hq hE hc hD ⊢
  have hBa : Below w.heap.size w (w.alloc (.cells #[.int .i64 code, .slice ra recs.length rc, .slice sa ns sc, .slice ga ng gc, .int .i64 neg] 39)) := (Below.refl _ w).alloc (Nat.le_refl _) _
  have HC := check_cache_any _ (henv.later hBa) (h.later hBa) s kind now
  rw [hk] at HC
  have HC := Lib.hid HC
  have HE := Lib.hid hE
  clear hq hE hk h hf
  have hcode : code = 1 ∨ code = 2 ∨ code = 4 ∨ code = 5 := by omega
  generalize hn : recs.length = n at *
  clear hc hn
  rcases hcode with rfl | rfl | rfl | rfl
  all_goals rcases hD with hD | ⟨hD, h6 | ⟨h6, h7⟩ | ⟨h6, h7, h8⟩⟩
  all_goals first | (have hl : decide (0 < n) = false := by rw [decide_eq_false_iff_not]; omega) | (have hl : decide (0 < n) = true := by rw [decide_eq_true_iff]; omega)
  all_goals try (exfalso; clear hl; omega)
  all_goals clear hD
  all_goals
    go_enter Tryz.func76, Tryz.ntmps76
    go_wp2_with fail
    refine HC.out.mono ?_
    rintro e w1 ⟨rfl, hB⟩
    have bx := box_cells hB
    have hend := HE.out _ (hBa.trans (hB.mono hBa.size))
    clear HC
    go_wp2
    go_ret
    exact hend
end
end Go.Proofs.YtajllcbjgndcpaaGreatDoor
