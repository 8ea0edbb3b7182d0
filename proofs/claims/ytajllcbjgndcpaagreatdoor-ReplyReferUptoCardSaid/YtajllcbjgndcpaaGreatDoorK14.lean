/- WALKS: Put at every input; words for Get; Get, where check refuses. -/
import Derived.Test.YtajllcbjgndcpaaGreatDoorK13
namespace Go.Proofs.YtajllcbjgndcpaaGreatDoor
open Go.RowKit Go.Maps
section
variable {B pb : Nat} {c : Cb.Cac} {xs : List EV} {v : Value}

theorem cachePut_any (w : World) (henv : Env w) (hI : Cb.Inv c) (h : Cch B pb w c xs v) (s : ByteArray) (kind now : Int) (x : RP) (hx : ROk B w x) :
    Calls Tryz.prog 76 #[.pointer (some ⟨pb, 0, none⟩), .string s, .int .i64 kind, .agg (rpV x).toArray, .int .i64 now] w (StoreEnd B pb c s.data.toList kind x.p now w) := by
  by_cases hk : Cb.chk c s.data.toList kind now = 0
  · by_cases hc : x.p.code < 1 ∨ x.p.code > 5 ∨ x.p.code = 3
    · exact put_code w henv h s kind now x hk hc
    · by_cases hf : Cb.illForm x.p
      · exact put_form w henv h s kind now x hk hc hf
      · by_cases hl : Cb.life x.p < 0 ∨ Cb.life x.p > 1000000 ∨ x.p.recs.any Cb.badT = true
        · exact put_life w henv h s kind now x hx hk hc hf hl
        · exact put_ok w henv hI h s kind now x hx hk hc hf hl
  · exact put_chk w henv h s kind now x hk
end

/-! Words. -/
section
variable {P : Program} {md : Region.Mode} {ops : Array Oper} {Q : Exit → Act → World → Prop} {A : List Nat} {S : World → Prop}
/-- Two may come up. -/
theorem wpDue_two {i j : Nat} {o p : Oper} {n : Nat} {listed : Array Bool} {a : Act} {w : World} (hr : Region.ready md ops listed = [i, j]) (ho : ops[i]? = some o) (hp : ops[j]? = some p)
    (h : ∀ K' : Act → World → Prop, (∀ a w, (i ∈ A → S w) → wpDue P md ops Q A S n (listed.setIfInBounds i true) a w → K' a w) →
      if Region.wanted o (yielded ops a.tmps) = true then Oper.wp P o a w K' Q else K' (a.put o.dst undef) w)
    (h' : ∀ K' : Act → World → Prop, (∀ a w, (j ∈ A → S w) → wpDue P md ops Q A S n (listed.setIfInBounds j true) a w → K' a w) →
      if Region.wanted p (yielded ops a.tmps) = true then Oper.wp P p a w K' Q else K' (a.put p.dst undef) w) : wpDue P md ops Q A S (n + 1) listed a w := by
  refine ⟨fun h0 => (by rw [h0] at hr; cases hr), fun k hk => ?_⟩
  rw [hr] at hk
  rcases List.mem_cons.1 hk with rfl | hk
  · exact wpOp_step ho fun K' hK => h K' fun a w h1 h2 => hK a w ⟨h1, h2⟩
  · rw [List.mem_singleton] at hk
    subst hk
    exact wpOp_step hp fun K' hK => h' K' fun a w h1 h2 => hK a w ⟨h1, h2⟩
end
theorem results_cell_two {P : Program} {fn : Func} {p t u : Tmp} {ty : TypeId} (h : fn.results = #[.cell p ty, .tmp t, .tmp u]) (tmps : Array Value) (w : World) (g : Nat) (T : TypeId) (cs : Array Value) (fr : Nat × Nat) (d : TypeDesc)
    (hp : tmps.getD p undef = .pointer (some ⟨g, 0, none⟩)) (hg : w.heap[g]? = some (.cells cs T fr))
    (hu : P.underlying ty = some d) (hd : (match d with | .struct _ | .array _ _ => true | _ => false) = true) (hi : (P.info? ty).map (·.size) = some cs.size) :
    (results fn tmps).run P w = .ok (.tuple #[.agg cs, tmps.getD t undef, tmps.getD u undef]) w := by
  have hp' : tmps[p]?.getD undef = .pointer (some ⟨g, 0, none⟩) := by simpa using hp
  simp [results, h, hp', asAddr, run_loadVar_row w g T ty cs fr d hg hu hd hi]
theorem five_stored {w : World} {s : Nat} {t : TypeId} {z0 z1 z2 z3 z4 v0 v1 v2 v3 v4 : Value} (h : w.heap[s]? = some (.cells #[z0, z1, z2, z3, z4] t (0, 0))) :
    (((((w.setCell ⟨s, 0, none⟩ v0).setCell ⟨s, 1, none⟩ v1).setCell ⟨s, 2, none⟩ v2).setCell ⟨s, 3, none⟩ v3).setCell ⟨s, 4, none⟩ v4).heap[s]? = some (.cells #[v0, v1, v2, v3, v4] t (0, 0)) := by
  rw [heap_setCell_same _ _ 4 _ _ _ (heap_setCell_same _ _ 3 _ _ _ (heap_setCell_same _ _ 2 _ _ _ (heap_setCell_same _ _ 1 _ _ _ (heap_setCell_same _ _ 0 _ _ _ h))))]
  rfl
theorem five_below {B : Nat} {a w : World} {s : Nat} {v0 v1 v2 v3 v4 : Value} (h : Below B a w) (hs : B ≤ s) :
    Below B a (((((w.setCell ⟨s, 0, none⟩ v0).setCell ⟨s, 1, none⟩ v1).setCell ⟨s, 2, none⟩ v2).setCell ⟨s, 3, none⟩ v3).setCell ⟨s, 4, none⟩ v4) := by
  refine Below.setCell ?_ hs _
  refine Below.setCell ?_ hs _
  refine Below.setCell ?_ hs _
  refine Below.setCell ?_ hs _
  exact Below.setCell h hs _

theorem RowR.form {B g n cap : Nat} {w : World} {d : List Cb.Rec} (h : RowR B w (.slice (some ⟨g, 0, none⟩) n cap) d) :
    ∃ cur : Array Value, n = d.length ∧ B ≤ g ∧ w.heap[g]? = some (.cells cur 43 (0, 0)) ∧ d.length ≤ cap ∧ cap ≤ maxLen ∧ cur.size = cap * 4 ∧ cur.toList.take (d.length * 4) = d.flatMap recV := by
  rcases h.2 with ⟨h0, _⟩ | ⟨g', cap', cur, hv, hb, hg, h1, h2, h3, h4⟩
  · cases h0
  · injection hv with e1 e2 e3
    injection e1 with e1
    injection e1 with e1
    subst e1 e2 e3
    exact ⟨cur, rfl, hb, hg, h1, h2, h3, h4⟩
theorem RowR.setTtl {B g n cap : Nat} {w : World} {d : List Cb.Rec} (h : RowR B w (.slice (some ⟨g, 0, none⟩) n cap) d) {i : Nat} {x : Cb.Rec} (hx : d[i]? = some x) (t : Int) :
    RowR B (w.setCell ⟨g, i * 4 + 2, none⟩ (.int .i64 t)) (.slice (some ⟨g, 0, none⟩) n cap) (d.set i { x with ttl := t }) := by
  obtain ⟨cur, hn, hb, hg, h1, h2, h3, h4⟩ := h.form
  have hi : i < d.length := (List.getElem?_eq_some_iff.1 hx).1
  have k1 := heap_setCell_same w g (i * 4 + 2) _ _ (.int .i64 t) hg
  have hcell : ∀ j, j < 4 → cur.toList[i * 4 + j]? = (recV x)[j]? := by
    intro j hj
    obtain ⟨u, hu⟩ : ∃ u, (recV x)[j]? = some u := ⟨(recV x)[j]'(by rw [recV_len]; exact hj), List.getElem?_eq_getElem _⟩
    rw [hu]
    have h5 := flat_at recV 4 recV_len d i x hx j u hu
    rw [← h4, List.getElem?_take] at h5
    split at h5
    · exact h5
    · cases h5
  have hset : ∀ j, (cur.setIfInBounds (i * 4 + 2) (.int .i64 t)).toList[j]? = if i * 4 + 2 = j ∧ j < cur.size then some (.int .i64 t) else cur.toList[j]? := by
    intro j
    rw [Array.toList_setIfInBounds, List.getElem?_set]
    by_cases e : i * 4 + 2 = j
    · subst e
      by_cases e2 : i * 4 + 2 < cur.size
      · simp [e2]
      · simp [e2]
    · simp [e]
  have hsz : d.length * 4 ≤ cur.size := by rw [h3]; exact Nat.mul_le_mul_right 4 h1
  have key := flat_set recV 4 recV_len (by decide) d i { x with ttl := t } cur.toList (cur.setIfInBounds (i * 4 + 2) (.int .i64 t)).toList h4
    (fun j hj => by rw [hset, if_neg (by omega)]) (fun j hj => by rw [hset, if_neg (by omega)])
    (fun j hj => by
      rw [hset]
      by_cases e : j = 2
      · subst e; rw [if_pos ⟨rfl, by omega⟩]; rfl
      · rw [if_neg (by omega), hcell j hj]
        obtain rfl | rfl | rfl : j = 0 ∨ j = 1 ∨ j = 3 := by omega
        · rfl
        · rfl
        · rfl) hi
  have hl : (d.set i { x with ttl := t }).length = d.length := List.length_set
  refine ⟨by rw [recs_len], .inr ⟨g, cap, _, ?_, hb, k1, ?_, h2, ?_, ?_⟩⟩
  · rw [hl, hn]
  · rw [hl]; exact h1
  · rw [Array.size_setIfInBounds]; exact h3
  · rw [hl]; exact key

theorem RowR.own {B : Nat} {w : World} {v : Value} {l : List Cb.Rec} (h : RowR B w v l) : ∀ g, v.ownBlock = some g → B ≤ g ∧ g < w.heap.size := by
  intro g hg
  rcases h.2 with ⟨rfl, _⟩ | ⟨g', cap, cur, rfl, h3, h4, _⟩
  · cases hg
  · injection hg with hg; subst hg; exact ⟨h3, (Array.getElem?_eq_some_iff.1 h4).1⟩
theorem grown_setCell {w : World} (g i : Nat) (u : Value) : w.grownBy (w.setCell ⟨g, i, none⟩ u) (some g) :=
  ⟨rfl, rfl, rfl, by simp [World.setCell], fun k _ hk => Below.heap_setCell _ _ _ _ (by intro e; subst e; exact hk rfl)⟩
theorem Fr.setNew {B pb q : Nat} {w0 w : World} (h : Fr B pb w0 w) (hq : w0.heap.size ≤ q) (hB : B ≤ q) (j : Nat) (u : Value) : Fr B pb w0 (w.setCell ⟨q, j, none⟩ u) :=
  ⟨h.below.setCell hB u, fun k hk hne ht => (Below.heap_setCell _ _ _ _ (by show k ≠ q; omega)).trans (h.kept k hk hne ht)⟩
/-- A cell of a block that is neither the cache nor a row of entries or records. -/
theorem Cch.setFar {B pb q : Nat} {w : World} {c : Cb.Cac} {xs : List EV} {v : Value} {cs : Array Value} {T : TypeId} (h : Cch B pb w c xs v) (hq : w.heap[q]? = some (.cells cs T (0, 0))) (hT : T ≠ 161) (hT2 : T ≠ 43) (hne : q ≠ pb) (hB : B ≤ q) (j : Nat) (u : Value) :
    Cch B pb (w.setCell ⟨q, j, none⟩ u) c xs v := by
  have hvq : v.ownBlock ≠ some q := by
    intro e
    obtain ⟨_, _, cs', hcs⟩ := h.row.block q e
    rw [hq] at hcs
    injection hcs with hcs
    injection hcs with _ hcs
    exact hT hcs
  have hnr : ∀ cs fr, w.heap[q]? ≠ some (.cells cs 43 fr) := by
    intro cs' fr e
    rw [hq] at e
    injection e with e
    injection e with _ e
    exact hT2 e
  exact ⟨h.hpb, (Below.heap_setCell _ _ _ _ (Ne.symm hne)).trans h.blk, World.ownsRow.kept h.row (grown_setCell q j u) (.inr hvq), h.es, fun x hx => (h.ok x hx).fr (Fr.setCell hB j u) hnr⟩
theorem Recs.setFar {B q : Nat} {w : World} {v : Value} {l : List Cb.Rec} {cs : Array Value} {T : TypeId} (h : Recs B w v l) (hq : w.heap[q]? = some (.cells cs T (0, 0))) (hT2 : T ≠ 43) (hB : B ≤ q) (j : Nat) (u : Value) : Recs B (w.setCell ⟨q, j, none⟩ u) v l :=
  h.fr (Fr.setCell hB j u) (by
    intro cs' fr e
    rw [hq] at e
    injection e with e
    injection e with _ e
    exact hT2 e)
/-- Five cells of such a block. -/
theorem five_all {B pb q : Nat} {w0 w : World} {c : Cb.Cac} {xs : List EV} {v : Value} {z0 z1 z2 z3 z4 : Value} {T : TypeId} (v0 v1 v2 v3 v4 : Value) (hq : w.heap[q]? = some (.cells #[z0, z1, z2, z3, z4] T (0, 0))) (hT : T ≠ 161) (hT2 : T ≠ 43)
    (hC : Cch B pb w c xs v) (hF : Fr B pb w0 w) (hne : q ≠ pb) (hB : B ≤ q) (h0 : w0.heap.size ≤ q) :
    Cch B pb (((((w.setCell ⟨q, 0, none⟩ v0).setCell ⟨q, 1, none⟩ v1).setCell ⟨q, 2, none⟩ v2).setCell ⟨q, 3, none⟩ v3).setCell ⟨q, 4, none⟩ v4) c xs v ∧
    Fr B pb w0 (((((w.setCell ⟨q, 0, none⟩ v0).setCell ⟨q, 1, none⟩ v1).setCell ⟨q, 2, none⟩ v2).setCell ⟨q, 3, none⟩ v3).setCell ⟨q, 4, none⟩ v4) ∧
    ∀ u l, Recs B w u l → Recs B (((((w.setCell ⟨q, 0, none⟩ v0).setCell ⟨q, 1, none⟩ v1).setCell ⟨q, 2, none⟩ v2).setCell ⟨q, 3, none⟩ v3).setCell ⟨q, 4, none⟩ v4) u l := by
  have q1 := heap_setCell_same w q 0 _ _ v0 hq
  have q2 := heap_setCell_same _ q 1 _ _ v1 q1
  have q3 := heap_setCell_same _ q 2 _ _ v2 q2
  have q4 := heap_setCell_same _ q 3 _ _ v3 q3
  refine ⟨?_, ?_, fun u l h => ?_⟩
  · exact ((((hC.setFar hq hT hT2 hne hB 0 v0).setFar q1 hT hT2 hne hB 1 v1).setFar q2 hT hT2 hne hB 2 v2).setFar q3 hT hT2 hne hB 3 v3).setFar q4 hT hT2 hne hB 4 v4
  · exact ((((hF.setNew h0 hB 0 v0).setNew h0 hB 1 v1).setNew h0 hB 2 v2).setNew h0 hB 3 v3).setNew h0 hB 4 v4
  · exact ((((h.setFar hq hT2 hB 0 v0).setFar q1 hT2 hB 1 v1).setFar q2 hT2 hB 2 v2).setFar q3 hT2 hB 3 v3).setFar q4 hT2 hB 4 v4

/-- What Get leaves. -/
def GetEnd (B pb : Nat) (c : Cb.Cac) (name : Lb.Bs) (kind now : Int) (w0 : World) (e : Ending) (w' : World) : Prop :=
  ∃ x : RP, e = .returned (.tuple #[.agg (rpV x).toArray, .bool (Cb.got c name kind now).isSome, .int .i64 (Cb.chk c name kind now)]) ∧ x.p = (Cb.got c name kind now).getD ⟨0, [], 0, 0, 0⟩ ∧
    Recs B w' (.slice x.ra x.p.recs.length x.rc) x.p.recs ∧ Recs B w' (.slice x.sa 0 x.sc) [] ∧ Recs B w' (.slice x.ga 0 x.gc) [] ∧
    (∃ xs' v', Cch B pb w' (Cb.get c name kind now) xs' v') ∧ Fr B pb w0 w'
def noRP : RP := ⟨⟨0, [], 0, 0, 0⟩, none, 0, none, 0, none, 0⟩
theorem recs_nil (B : Nat) (w : World) : Recs B w (.slice none 0 0) [] := ⟨none, 0, rfl, Nat.le_refl _, by unfold maxLen; omega, fun h => absurd rfl h⟩

section
variable {B pb : Nat} {c : Cb.Cac} {xs : List EV} {v : Value}
set_option maxHeartbeats 3200000 in
set_option maxRecDepth 100000 in
theorem get_chk (w : World) (henv : Env w) (h : Cch B pb w c xs v) (s : ByteArray) (kind now : Int) (hk : Cb.chk c s.data.toList kind now ≠ 0) :
    Calls Tryz.prog 75 #[.pointer (some ⟨pb, 0, none⟩), .string s, .int .i64 kind, .int .i64 now] w (GetEnd B pb c s.data.toList kind now w) := by
  have hgot : Cb.got c s.data.toList kind now = none := by unfold Cb.got; rw [if_pos hk]
  have hget : Cb.get c s.data.toList kind now = c := by unfold Cb.get; rw [if_pos hk]
  have hBa : Below w.heap.size w (w.alloc (.cells #[.int .i64 0, .slice none 0 0, .slice none 0 0, .slice none 0 0, .int .i64 0] 39)) := (Below.refl _ w).alloc (Nat.le_refl _) _
  have HC := Lib.hid (check_cache_any _ (henv.later hBa) (h.later hBa) s kind now)
  have hE : ∀ w', Below w.heap.size w w' → GetEnd B pb c s.data.toList kind now w (.returned (.tuple #[.agg #[.int .i64 0, .slice none 0 0, .slice none 0 0, .slice none 0 0, .int .i64 0], .bool false, .int .i64 (Cb.chk c s.data.toList kind now)])) w' := by
    intro w' hb
    refine ⟨noRP, by rw [hgot]; rfl, by rw [hgot]; rfl, recs_nil _ _, recs_nil _ _, recs_nil _ _, ⟨xs, v, by rw [hget]; exact h.later hb⟩, Fr.of_below hb h.bs⟩
  have hbad : (Cb.chk c s.data.toList kind now == 0) = false := beq_eq_false_iff_ne.2 hk
  have hbad2 : (Cb.chk c s.data.toList kind now != 0) = true := by rw [bne, hbad]; rfl
  have HE := Lib.hid hE
  clear hE hk h hgot hget
  generalize Cb.chk c s.data.toList kind now = q at *
  go_enter Tryz.func75, Tryz.ntmps75
  go_wp2_with fail
  refine HC.out.mono ?_
  rintro e w1 ⟨rfl, hB⟩
  have hBt := hBa.trans (hB.mono hBa.size)
  have Rb := Lib.hid ((hB.block w.heap.size (by simp)).trans (heap_alloc_new w _))
  have hc := fun j => cell_of_row w1 w.heap.size j _ _ _ Rb.out
  have hf := fun j => frozen_of_row w1 w.heap.size j _ _ Rb.out
  have HB := Lib.hid hBt
  clear hB hBt
  go_wp2
  refine bodyPost_ret (results_cell_two rfl _ _ w.heap.size 39 _ (0, 0) _ rfl (five_stored Rb.out) Tryz.underlying39 rfl (by kernel_rfl)) rfl ?_
  exact HE.out _ (five_below HB.out (Nat.le_refl _))
end
end Go.Proofs.YtajllcbjgndcpaaGreatDoor
