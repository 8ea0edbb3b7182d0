/- How records and entries lie in memory; the closures on entries and records. -/
import Derived.Test.YtajllcbjgndcpaaGreatDoorR0
import Derived.Test.YtajllcbjgndcpaaGreatDoorCb
import Derived.Shelf.SlicesQ.IndexFunc
namespace Go.Proofs.YtajllcbjgndcpaaGreatDoor
open Go.RowKit Go.Maps

def recV (r : Cb.Rec) : List Value := [.string ⟨r.name.toArray⟩, .int .i64 r.kind, .int .i64 r.ttl, .string ⟨r.data.toArray⟩]
/-- An entry with the slices that its answer has. -/
structure EV where
  e : Cb.Ent
  ra : Option Addr
  rc : Nat
  sa : Option Addr
  sc : Nat
  ga : Option Addr
  gc : Nat
instance : Inhabited EV := ⟨⟨default, none, 0, none, 0, none, 0⟩⟩
def entV (x : EV) : List Value := [.string ⟨x.e.name.toArray⟩, .int .i64 x.e.kind, .int .i64 x.e.code, .slice x.ra x.e.recs.length x.rc, .slice x.sa 0 x.sc, .slice x.ga 0 x.gc, .int .i64 x.e.neg, .int .i64 x.e.at_, .int .i64 x.e.til]
theorem entV_len (x : EV) : (entV x).length = 9 := rfl
theorem recV_len (x : Cb.Rec) : (recV x).length = 4 := rfl

set_option maxHeartbeats 800000 in
theorem expire1_any (x : EV) (b : Nat) (now : Int) (w : World) (h : w.cell? ⟨b, 0, none⟩ = some (.int .i64 now)) :
    Calls Tryz.prog 147 #[.agg (entV x).toArray, .pointer (some ⟨b, 0, none⟩)] w fun e w' => e = .returned (.bool (decide (x.e.til ≤ now))) ∧ Below w.heap.size w w' := by
  obtain ⟨⟨nm, kd, cd, rs, ng, at_, til⟩, ra, rc, sa, sc, ga, gc⟩ := x
  unfold entV
  have hlt := World.block_lt_of_cell? w _ h
  simp only at hlt
  have hne : b ≠ w.heap.size := by omega
  go_enter Tryz.func147, Tryz.ntmps147
  go_wp2
  go_ret
  exact ⟨rfl, (Below.refl _ w).alloc (Nat.le_refl _) _⟩

set_option maxHeartbeats 800000 in
theorem put1_any (x : Cb.Rec) (w : World) :
    Calls Tryz.prog 118 #[.agg (recV x).toArray] w fun e w' => e = .returned (.bool (Cb.badT x)) ∧ Below w.heap.size w w' := by
  obtain ⟨nm, kd, ttl, dt⟩ := x
  unfold recV Cb.badT
  simp only
  by_cases h1 : ttl < 0
  · go_enter Tryz.func118, Tryz.ntmps118
    go_wp2
    go_ret
    exact ⟨by simp [h1], (Below.refl _ w).alloc (Nat.le_refl _) _⟩
  · go_enter Tryz.func118, Tryz.ntmps118
    go_wp2
    go_ret
    exact ⟨by simp; omega, (Below.refl _ w).alloc (Nat.le_refl _) _⟩

set_option maxHeartbeats 800000 in
theorem put2_any (x : EV) (b : Nat) (s : ByteArray) (k : Int) (w : World) (h : w.cell? ⟨b, 0, none⟩ = some (.string s)) (h' : w.cell? ⟨b, 1, none⟩ = some (.int .i64 k)) :
    Calls Tryz.prog 120 #[.agg (entV x).toArray, .pointer (some ⟨b, 0, none⟩)] w fun e w' => e = .returned (.bool (Cb.isQ s.data.toList k x.e)) ∧ Below w.heap.size w w' := by
  obtain ⟨⟨nm, kd, cd, rs, ng, at_, til⟩, ra, rc, sa, sc, ga, gc⟩ := x
  unfold entV
  have hlt := World.block_lt_of_cell? w _ h
  simp only at hlt
  have hne : b ≠ w.heap.size := by omega
  go_enter Tryz.func120, Tryz.ntmps120
  go_wp2
  all_goals go_ret
  all_goals refine ⟨?_, (Below.refl _ w).alloc (Nat.le_refl _) _⟩
  all_goals rw [← ByteArray.toList_eq]; simp [Cb.isQ, *]

set_option maxHeartbeats 800000 in
theorem get1_any (x : EV) (b : Nat) (s : ByteArray) (k : Int) (w : World) (h : w.cell? ⟨b, 0, none⟩ = some (.string s)) (h' : w.cell? ⟨b, 1, none⟩ = some (.int .i64 k)) :
    Calls Tryz.prog 113 #[.agg (entV x).toArray, .pointer (some ⟨b, 0, none⟩)] w fun e w' => e = .returned (.bool (Cb.isQ s.data.toList k x.e)) ∧ Below w.heap.size w w' := by
  obtain ⟨⟨nm, kd, cd, rs, ng, at_, til⟩, ra, rc, sa, sc, ga, gc⟩ := x
  unfold entV
  have hlt := World.block_lt_of_cell? w _ h
  simp only at hlt
  have hne : b ≠ w.heap.size := by omega
  go_enter Tryz.func113, Tryz.ntmps113
  go_wp2
  all_goals go_ret
  all_goals refine ⟨?_, (Below.refl _ w).alloc (Nat.le_refl _) _⟩
  all_goals rw [← ByteArray.toList_eq]; simp [Cb.isQ, *]

theorem enters48 : ∀ args w, (callFunc 147 args).run Tryz.prog w = .ok (.enter 147 args) w := fun args w => enters_of Tryz.func147 (by kernel_rfl) rfl args w
theorem enters30 : ∀ args w, (callFunc 118 args).run Tryz.prog w = .ok (.enter 118 args) w := fun args w => enters_of Tryz.func118 (by kernel_rfl) rfl args w
theorem enters33 : ∀ args w, (callFunc 120 args).run Tryz.prog w = .ok (.enter 120 args) w := fun args w => enters_of Tryz.func120 (by kernel_rfl) rfl args w
theorem enters37 : ∀ args w, (callFunc 113 args).run Tryz.prog w = .ok (.enter 113 args) w := fun args w => enters_of Tryz.func113 (by kernel_rfl) rfl args w

/-! Rows of records and of entries. -/
/-- A list of records as it lies in memory: below block B, or in a block of records. -/
def Recs (B : Nat) (w : World) (v : Value) (l : List Cb.Rec) : Prop := ∃ (a : Option Addr) (cap : Nat), v = .slice a l.length cap ∧ l.length ≤ cap ∧ cap ≤ maxLen ∧
  (l ≠ [] → ∃ b o, a = some ⟨b, o, none⟩ ∧ b < w.heap.size ∧ (b < B ∨ ∃ cs fr, w.heap[b]? = some (.cells cs 43 fr)) ∧
    ∀ j r, l[j]? = some r → ∀ i u, (recV r)[i]? = some u → w.cell? ⟨b, o + j * 4 + i, none⟩ = some u)
/-- What a call on a cache leaves: the blocks below B, and all that is no row of entries nor the cache itself. -/
structure Fr (B pb : Nat) (w w' : World) : Prop where
  below : Below B w w'
  kept : ∀ k, k < w.heap.size → k ≠ pb → (∀ cs fr, w.heap[k]? ≠ some (.cells cs 161 fr)) → w'.heap[k]? = w.heap[k]?
theorem Fr.refl (B pb : Nat) (w : World) : Fr B pb w w := ⟨Below.refl _ _, fun _ _ _ _ => rfl⟩
theorem Fr.trans {B pb : Nat} {a b c : World} (h : Fr B pb a b) (h' : Fr B pb b c) : Fr B pb a c :=
  ⟨h.below.trans h'.below, fun k hk hne ht => by
    have e := h.kept k hk hne ht
    rw [h'.kept k (Nat.lt_of_lt_of_le hk h.below.size) hne (by rw [e]; exact ht), e]⟩
theorem Fr.of_below {B pb : Nat} {w w' : World} (h : Below w.heap.size w w') (hB : B ≤ w.heap.size) : Fr B pb w w' := ⟨h.mono hB, fun k hk _ _ => h.block k hk⟩
theorem Recs.fr {B pb : Nat} {w w' : World} {v : Value} {l : List Cb.Rec} (h : Recs B w v l) (hf : Fr B pb w w') (hp : ∀ cs fr, w.heap[pb]? ≠ some (.cells cs 43 fr)) : Recs B w' v l := by
  obtain ⟨a, cap, h1, h2, h3, h4⟩ := h
  refine ⟨a, cap, h1, h2, h3, fun hn => ?_⟩
  obtain ⟨b, o, h5, h6, h7, h8⟩ := h4 hn
  have hblk : w'.heap[b]? = w.heap[b]? := by
    rcases h7 with h7 | ⟨cs, fr, h7⟩
    · exact hf.below.block b h7
    · refine hf.kept b h6 ?_ ?_
      · rintro rfl; exact hp cs fr h7
      · intro cs' fr' e; rw [h7] at e; injection e with e; injection e with _ e; exact absurd e (by decide)
  refine ⟨b, o, h5, Nat.lt_of_lt_of_le h6 hf.below.size, ?_, fun j r hr i u hu => ?_⟩
  · rcases h7 with h7 | ⟨cs, fr, h7⟩
    · exact .inl h7
    · exact .inr ⟨cs, fr, hblk.trans h7⟩
  · exact (World.cell?_of_block hblk).trans (h8 j r hr i u hu)
theorem Recs.later {B : Nat} {w w' : World} {v : Value} {l : List Cb.Rec} (h : Recs B w v l) (hb : Below w.heap.size w w') : Recs B w' v l := by
  obtain ⟨a, cap, h1, h2, h3, h4⟩ := h
  refine ⟨a, cap, h1, h2, h3, fun hn => ?_⟩
  obtain ⟨b, o, h5, h6, h7, h8⟩ := h4 hn
  refine ⟨b, o, h5, Nat.lt_of_lt_of_le h6 hb.size, ?_, fun j r hr i u hu => (World.cell?_of_block (hb.block b h6)).trans (h8 j r hr i u hu)⟩
  rcases h7 with h7 | ⟨cs, fr, h7⟩
  · exact .inl h7
  · exact .inr ⟨cs, fr, (hb.block b h6).trans h7⟩
/-- A row of records of the call's own. -/
def RowR (B : Nat) (w : World) (v : Value) (l : List Cb.Rec) : Prop := w.ownsRow B 43 4 v l.length (l.flatMap recV)
theorem flat_at {α : Type} (f : α → List Value) (k : Nat) (hk : ∀ x, (f x).length = k) : ∀ (l : List α) (j : Nat) (x : α), l[j]? = some x → ∀ i u, (f x)[i]? = some u → (l.flatMap f)[j * k + i]? = some u
  | [], j, x, h, _, _, _ => by simp at h
  | y :: r, 0, x, h, i, u, hu => by
    simp at h; subst h
    rw [List.flatMap_cons, Nat.zero_mul, Nat.zero_add, List.getElem?_append_left (List.getElem?_eq_some_iff.1 hu).1, hu]
  | y :: r, j + 1, x, h, i, u, hu => by
    rw [List.getElem?_cons_succ] at h
    rw [List.flatMap_cons, List.getElem?_append_right (by rw [hk, Nat.add_mul]; omega), hk, show (j + 1) * k + i - k = j * k + i by rw [Nat.add_mul]; omega]
    exact flat_at f k hk r j x h i u hu
theorem RowR.recs {B B' : Nat} {w : World} {v : Value} {l : List Cb.Rec} (h : RowR B w v l) : Recs B' w v l := by
  rcases h.2 with ⟨rfl, hn⟩ | ⟨g, cap, cur, rfl, _, hg, h1, h2, _⟩
  · have : l = [] := List.eq_nil_of_length_eq_zero hn
    subst this
    exact ⟨none, 0, rfl, Nat.le_refl _, by unfold maxLen; omega, fun h => absurd rfl h⟩
  · refine ⟨_, cap, rfl, h1, h2, fun _ => ⟨g, 0, rfl, (Array.getElem?_eq_some_iff.1 hg).1, .inr ⟨_, _, hg⟩, fun j x hx i u hu => ?_⟩⟩
    have := World.ownsRow.cells h (g := g) rfl (j * 4 + i) u (flat_at recV 4 recV_len l j x hx i u hu)
    rw [add_at, Nat.zero_add] at this
    rw [Nat.zero_add, this]
theorem RowR.later {B : Nat} {w w' : World} {v : Value} {l : List Cb.Rec} (h : RowR B w v l) (hb : Below w.heap.size w w') : RowR B w' v l := by
  refine ⟨h.1, ?_⟩
  rcases h.2 with h2 | ⟨g, cap, cur, h2, h3, h4, h5⟩
  · exact .inl h2
  · exact .inr ⟨g, cap, cur, h2, h3, (hb.block g (Array.getElem?_eq_some_iff.1 h4).1).trans h4, h5⟩
/-- A row of entries. -/
def RowE (B : Nat) (w : World) (v : Value) (l : List EV) : Prop := w.ownsRow B 161 9 v l.length (l.flatMap entV)
theorem RowE.later {B : Nat} {w w' : World} {v : Value} {l : List EV} (h : RowE B w v l) (hb : Below w.heap.size w w') : RowE B w' v l := by
  refine ⟨h.1, ?_⟩
  rcases h.2 with h2 | ⟨g, cap, cur, h2, h3, h4, h5⟩
  · exact .inl h2
  · exact .inr ⟨g, cap, cur, h2, h3, (hb.block g (Array.getElem?_eq_some_iff.1 h4).1).trans h4, h5⟩
theorem RowE.cells {B g n cap : Nat} {w : World} {l : List EV} (h : RowE B w (.slice (some ⟨g, 0, none⟩) n cap) l) {j : Nat} {x : EV} (hx : l[j]? = some x) {i : Nat} {u : Value} (hu : (entV x)[i]? = some u) : w.cell? ⟨g, j * 9 + i, none⟩ = some u := by
  have := World.ownsRow.cells h (g := g) rfl (j * 9 + i) u (flat_at entV 9 entV_len l j x hx i u hu)
  rw [add_at] at this
  rw [← this, Nat.zero_add]
end Go.Proofs.YtajllcbjgndcpaaGreatDoor
