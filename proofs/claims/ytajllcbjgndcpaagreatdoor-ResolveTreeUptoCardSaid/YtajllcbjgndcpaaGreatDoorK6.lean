/- WALKS: New, check, expire, Size. -/
import Derived.Test.YtajllcbjgndcpaaGreatDoorK5
namespace Go.Proofs.YtajllcbjgndcpaaGreatDoor
open Go.RowKit Go.Maps

/-- An entry's slices lie in memory. -/
structure EOk (B : Nat) (w : World) (x : EV) : Prop where
  r : Recs B w (.slice x.ra x.e.recs.length x.rc) x.e.recs
  s : Recs B w (.slice x.sa 0 x.sc) []
  g : Recs B w (.slice x.ga 0 x.gc) []
/-- A cache at block pb. -/
structure Cch (B pb : Nat) (w : World) (c : Cb.Cac) (xs : List EV) (v : Value) : Prop where
  hpb : B ≤ pb
  blk : w.heap[pb]? = some (.cells #[.int .i64 c.room, .int .i64 c.now, v] 153 (0, 0))
  row : RowE B w v xs
  es : xs.map (·.e) = c.es
  ok : ∀ x ∈ xs, EOk B w x

section
variable {B pb : Nat} {w w' : World} {c : Cb.Cac} {xs : List EV} {v : Value}
theorem Cch.lt (h : Cch B pb w c xs v) : pb < w.heap.size := (Array.getElem?_eq_some_iff.1 h.blk).1
theorem Cch.c0 (h : Cch B pb w c xs v) : w.cell? ⟨pb, 0, none⟩ = some (.int .i64 c.room) := by rw [cell_of_row w _ 0 _ _ _ h.blk]; rfl
theorem Cch.c1 (h : Cch B pb w c xs v) : w.cell? ⟨pb, 1, none⟩ = some (.int .i64 c.now) := by rw [cell_of_row w _ 1 _ _ _ h.blk]; rfl
theorem Cch.c2 (h : Cch B pb w c xs v) : w.cell? ⟨pb, 2, none⟩ = some v := by rw [cell_of_row w _ 2 _ _ _ h.blk]; rfl
theorem Cch.fz (h : Cch B pb w c xs v) (j : Nat) : w.frozen? ⟨pb, j, none⟩ = false := frozen_of_row w pb j _ _ h.blk
theorem RowE.block (h : RowE B w v xs) : ∀ g, v.ownBlock = some g → B ≤ g ∧ g < w.heap.size ∧ ∃ cs, w.heap[g]? = some (.cells cs 161 (0, 0)) := by
  intro g hg
  rcases h.2 with ⟨rfl, _⟩ | ⟨g', cap, cur, rfl, h3, h4, _⟩
  · cases hg
  · injection hg with hg; subst hg; exact ⟨h3, (Array.getElem?_eq_some_iff.1 h4).1, _, h4⟩
theorem Cch.vne (h : Cch B pb w c xs v) : v.ownBlock ≠ some pb := by
  intro e
  obtain ⟨_, _, cs, hcs⟩ := h.row.block pb e
  rw [h.blk] at hcs
  injection hcs with hcs
  injection hcs with _ hcs
  exact absurd hcs (by decide)
theorem Cch.noRec (h : Cch B pb w c xs v) : ∀ cs fr, w.heap[pb]? ≠ some (.cells cs 43 fr) := by
  intro cs fr e
  rw [h.blk] at e
  injection e with e
  injection e with _ e
  exact absurd e (by decide)
theorem Fr.grown (h : RowE B w v xs) (hg : w.grownBy w' v.ownBlock) (hB : B ≤ w.heap.size) : Fr B pb w w' :=
  ⟨(Below.refl B w).grown hg hB (fun k hk => (h.block k hk).1), fun k hk _ ht => hg.block k hk (fun e => by obtain ⟨_, _, cs, hcs⟩ := h.block k e.symm; exact ht cs (0, 0) hcs)⟩
theorem Fr.setCell (hB : B ≤ pb) (j : Nat) (u : Value) : Fr B pb w (w.setCell ⟨pb, j, none⟩ u) :=
  ⟨(Below.refl B w).setCell hB u, fun _ _ hne _ => Below.heap_setCell _ _ _ _ hne⟩
theorem Fr.alloc (hB : B ≤ w.heap.size) (o : Obj) : Fr B pb w (w.alloc o) := ⟨(Below.refl B w).alloc hB o, fun _ hk _ _ => Below.heap_alloc _ _ _ hk⟩
theorem EOk.fr {x : EV} (h : EOk B w x) (hf : Fr B pb w w') (hp : ∀ cs fr, w.heap[pb]? ≠ some (.cells cs 43 fr)) : EOk B w' x := ⟨h.r.fr hf hp, h.s.fr hf hp, h.g.fr hf hp⟩
theorem EOk.later {x : EV} (h : EOk B w x) (hb : Below w.heap.size w w') : EOk B w' x := ⟨h.r.later hb, h.s.later hb, h.g.later hb⟩
theorem Cch.later (h : Cch B pb w c xs v) (hb : Below w.heap.size w w') : Cch B pb w' c xs v :=
  ⟨h.hpb, (hb.block pb h.lt).trans h.blk, h.row.later hb, h.es, fun x hx => (h.ok x hx).later hb⟩
theorem Cch.bs (h : Cch B pb w c xs v) : B ≤ w.heap.size := Nat.le_trans h.hpb (Nat.le_of_lt h.lt)
theorem RowE.setPb (h : RowE B w v xs) (hne : v.ownBlock ≠ some pb) (j : Nat) (u : Value) : RowE B (w.setCell ⟨pb, j, none⟩ u) v xs :=
  World.ownsRow.kept (w' := w.setCell ⟨pb, j, none⟩ u) (row := some pb) h ⟨rfl, rfl, rfl, by simp [World.setCell], fun k _ hk => Below.heap_setCell _ _ _ _ (by intro e; subst e; exact hk rfl)⟩ (.inr hne)
/-- The cache's own time is set. -/
theorem Cch.setNow (h : Cch B pb w c xs v) (now : Int) : Cch B pb (w.setCell ⟨pb, 1, none⟩ (.int .i64 now)) ⟨c.room, now, c.es⟩ xs v :=
  ⟨h.hpb, by rw [heap_setCell_same w pb 1 _ _ _ h.blk]; rfl, h.row.setPb h.vne _ _, h.es, fun x hx => (h.ok x hx).fr (Fr.setCell h.hpb _ _) h.noRec⟩
/-- The entries are changed in their row, and the cache's slice set. -/
theorem Cch.setRow {v' : Value} {xs' : List EV} {es' : List Cb.Ent} (h : Cch B pb w c xs v) (hr : RowE B w' v' xs') (hv : v' = v ∨ v'.ownBlock = v.ownBlock) (hg : w.grownBy w' v.ownBlock) (hes : xs'.map (·.e) = es') (hsub : ∀ x ∈ xs', x ∈ xs) :
    Cch B pb (w'.setCell ⟨pb, 2, none⟩ v') ⟨c.room, c.now, es'⟩ xs' v' ∧ Fr B pb w (w'.setCell ⟨pb, 2, none⟩ v') := by
  have hf : Fr B pb w w' := Fr.grown h.row hg h.bs
  have hblk : w'.heap[pb]? = _ := (hg.block pb h.lt (Ne.symm h.vne)).trans h.blk
  have hvne : v'.ownBlock ≠ some pb := by
    rcases hv with rfl | hv
    · exact h.vne
    · rw [hv]; exact h.vne
  have hf2 : Fr B pb w (w'.setCell ⟨pb, 2, none⟩ v') := hf.trans (Fr.setCell h.hpb _ _)
  exact ⟨⟨h.hpb, by rw [heap_setCell_same w' pb 2 _ _ _ hblk]; rfl, hr.setPb hvne _ _, hes, fun x hx => (h.ok x (hsub x hx)).fr hf2 h.noRec⟩, hf2⟩
end

set_option maxHeartbeats 800000 in
theorem new_any (room : Int) (w : World) (h1 : 1 ≤ room) (h2 : room ≤ 40) :
    Calls Tryz.prog 70 #[.int .i64 room] w fun e w' => e = .returned (.tuple #[.pointer (some ⟨w.heap.size, 0, none⟩), .int .i64 0]) ∧ Cch w.heap.size w.heap.size w' ⟨room, 0, []⟩ [] (.slice none 0 0) ∧ Below w.heap.size w w' := by
  go_enter Tryz.func70, Tryz.ntmps70
  go_wp2
  go_ret2
  exact ⟨rfl, ⟨Nat.le_refl _, heap_alloc_new _ _, World.ownsRow_nil _ _ _ _, rfl, by intro x hx; simp at hx⟩, (Below.refl _ _).alloc (Nat.le_refl _) _⟩

def chkE (w0 : World) (k : Int) (e : Ending) (w' : World) : Prop := e = .returned (.int .i64 k) ∧ Below w0.heap.size w0 w'
set_option maxHeartbeats 1600000 in
theorem check_cache_any {B pb : Nat} {c : Cb.Cac} {xs : List EV} {v : Value} (w : World) (henv : Env w) (h : Cch B pb w c xs v) (s : ByteArray) (kind now : Int) :
    Calls Tryz.prog 110 #[.pointer (some ⟨pb, 0, none⟩), .string s, .int .i64 kind, .int .i64 now] w (chkE w (Cb.chk c s.data.toList kind now)) := by
  have HC := Lib.hid (check_any s w henv)
  unfold Cb.chk
  by_cases hfit : Lb.check s.data.toList = 0
  · rw [hfit] at HC ⊢
    rw [if_neg (by simp)]
    clear hfit
    have key : ∀ k, (if kind < 1 ∨ kind > 5 then (1 : Int) else if now < 0 ∨ now > 1000000000 then 10 else if now < c.now then 13 else 0) = k → Calls Tryz.prog 110 #[.pointer (some ⟨pb, 0, none⟩), .string s, .int .i64 kind, .int .i64 now] w (chkE w k) := by
      intro k hk
      go_enter Tryz.func110, Tryz.ntmps110
      go_wp2_with fail
      refine HC.out.mono ?_
      rintro e w1 ⟨rfl, hB⟩
      have c1 := (h.later hB).c1
      clear HC h
      go_wp2
      all_goals go_ret
      all_goals exact ⟨by rw [← hk]; congr 2; simp [*]; try omega, hB⟩
    exact key _ rfl
  · have hbad : (Lb.check s.data.toList == 0) = false := beq_eq_false_iff_ne.2 hfit
    have hbad2 : (Lb.check s.data.toList != 0) = true := by rw [bne, hbad]; rfl
    rw [if_pos hfit]
    clear hfit
    generalize Lb.check s.data.toList = q at *
    go_enter Tryz.func110, Tryz.ntmps110
    go_wp2_with fail
    refine HC.out.mono ?_
    rintro e w1 ⟨rfl, hB⟩
    go_wp2
    go_ret
    exact ⟨rfl, hB⟩
end Go.Proofs.YtajllcbjgndcpaaGreatDoor
