/- WALK: Put, where it refuses. -/
import Derived.Test.YtajllcbjgndcpaaGreatDoorK9
import Derived.Test.YtajllcbjgndcpaaGreatDoorCbLaws
namespace Go.Proofs.YtajllcbjgndcpaaGreatDoor
open Go.RowKit Go.Maps

/-- What Put leaves. -/
def StoreEnd (B pb : Nat) (c : Cb.Cac) (name : Lb.Bs) (kind : Int) (r : Cb.Rp) (now : Int) (w0 : World) (e : Ending) (w' : World) : Prop :=
  e = .returned (.int .i64 (Cb.putErr c name kind r now)) ∧ (∃ xs' v', Cch B pb w' (Cb.put c name kind r now) xs' v') ∧ Fr B pb w0 w'
theorem put_refuses {B pb : Nat} {c : Cb.Cac} {xs : List EV} {v : Value} {name : Lb.Bs} {kind : Int} {r : Cb.Rp} {now q : Int} {w w' : World} (h : Cch B pb w c xs v) (hq : Cb.putErr c name kind r now = q) (h0 : q ≠ 0) (hb : Below w.heap.size w w') :
    StoreEnd B pb c name kind r now w (.returned (.int .i64 q)) w' := by
  refine ⟨by rw [hq], ⟨xs, v, ?_⟩, Fr.of_below hb h.bs⟩
  unfold Cb.put
  rw [if_pos (by rw [hq]; exact h0)]
  exact h.later hb

section
variable {B pb : Nat} {c : Cb.Cac} {xs : List EV} {v : Value}
set_option maxHeartbeats 3200000 in
theorem put_chk (w : World) (henv : Env w) (h : Cch B pb w c xs v) (s : ByteArray) (kind now : Int) (x : RP) (hk : Cb.chk c s.data.toList kind now ≠ 0) :
    Calls Tryz.prog 76 #[.pointer (some ⟨pb, 0, none⟩), .string s, .int .i64 kind, .agg (rpV x).toArray, .int .i64 now] w (StoreEnd B pb c s.data.toList kind x.p now w) := by
  have hq : Cb.putErr c s.data.toList kind x.p now = Cb.chk c s.data.toList kind now := by unfold Cb.putErr; rw [if_pos hk]
  have hE := fun w' (hb : Below w.heap.size w w') => put_refuses (w' := w') (r := x.p) h hq hk hb
  obtain ⟨⟨code, recs, ns, ng, neg⟩, ra, rc, sa, sc, ga, gc⟩ := x
  unfold rpV
  simp only at hq hE ⊢
  have hBa : Below w.heap.size w (w.alloc (.cells #[.int .i64 code, .slice ra recs.length rc, .slice sa ns sc, .slice ga ng gc, .int .i64 neg] 39)) := (Below.refl _ w).alloc (Nat.le_refl _) _
  have HC := Lib.hid (check_cache_any _ (henv.later hBa) (h.later hBa) s kind now)
  have hbad : (Cb.chk c s.data.toList kind now == 0) = false := beq_eq_false_iff_ne.2 hk
  have hbad2 : (Cb.chk c s.data.toList kind now != 0) = true := by rw [bne, hbad]; rfl
  have HE := Lib.hid hE
  clear hq hE hk h
  generalize Cb.chk c s.data.toList kind now = q at *
  go_enter Tryz.func76, Tryz.ntmps76
  go_wp2_with fail
  refine HC.out.mono ?_
  rintro e w1 ⟨rfl, hB⟩
  go_wp2
  go_ret
  exact HE.out _ (hBa.trans (hB.mono hBa.size))

set_option maxHeartbeats 3200000 in
theorem put_code (w : World) (henv : Env w) (h : Cch B pb w c xs v) (s : ByteArray) (kind now : Int) (x : RP) (hk : Cb.chk c s.data.toList kind now = 0) (hc : x.p.code < 1 ∨ x.p.code > 5 ∨ x.p.code = 3) :
    Calls Tryz.prog 76 #[.pointer (some ⟨pb, 0, none⟩), .string s, .int .i64 kind, .agg (rpV x).toArray, .int .i64 now] w (StoreEnd B pb c s.data.toList kind x.p now w) := by
  have hq : Cb.putErr c s.data.toList kind x.p now = 1 := by unfold Cb.putErr; rw [if_neg (by simp [hk]), if_pos hc]
  have hE := fun w' (hb : Below w.heap.size w w') => put_refuses (w' := w') (r := x.p) h hq (by decide) hb
  obtain ⟨⟨code, recs, ns, ng, neg⟩, ra, rc, sa, sc, ga, gc⟩ := x
  unfold rpV
  simp only at hq hE hc ⊢
  have hBa : Below w.heap.size w (w.alloc (.cells #[.int .i64 code, .slice ra recs.length rc, .slice sa ns sc, .slice ga ng gc, .int .i64 neg] 39)) := (Below.refl _ w).alloc (Nat.le_refl _) _
  have HC := check_cache_any _ (henv.later hBa) (h.later hBa) s kind now
  rw [hk] at HC
  have HC := Lib.hid HC
  have HE := Lib.hid hE
  clear hq hE hk h
  have hc' : code < 1 ∨ (¬ code < 1 ∧ code > 5) ∨ (¬ code < 1 ∧ ¬ code > 5 ∧ code = 3) := by omega
  clear hc
  rcases hc' with h1 | ⟨h1, h2⟩ | ⟨h1, h2, rfl⟩
  all_goals
    go_enter Tryz.func76, Tryz.ntmps76
    go_wp2_with fail
    refine HC.out.mono ?_
    rintro e w1 ⟨rfl, hB⟩
    have bx := box_cells hB
    have hend := HE.out _ (hBa.trans (hB.mono hBa.size))
    clear HC
    go_wp2
    go_ret
    exact hend
end
end Go.Proofs.YtajllcbjgndcpaaGreatDoor
