/- WALKS: IndexFunc and DeleteFunc on entries. -/
import Derived.Test.YtajllcbjgndcpaaGreatDoorK2
namespace Go.Proofs.YtajllcbjgndcpaaGreatDoor
open Go.RowKit Go.Maps

theorem grown_of_below {w w' : World} (h : Below w.heap.size w w') {row : Option Nat} : w.grownBy w' row := ⟨h.os, h.tape, h.output, h.size, fun k hk _ => h.block k hk⟩
theorem heap_setCells (g : Nat) (t : TypeId) : ∀ (vs : List Value) (o : Nat) (w : World) (cur : Array Value), w.heap[g]? = some (.cells cur t (0, 0)) →
    ∃ cur', (w.setCells g o vs).heap[g]? = some (.cells cur' t (0, 0)) ∧ cur'.size = cur.size ∧ (∀ j, j < o → cur'[j]? = cur[j]?) ∧ (∀ j, o + vs.length ≤ j → cur'[j]? = cur[j]?) ∧ (∀ j, j < vs.length → o + j < cur.size → cur'[o + j]? = vs[j]?)
  | [], o, w, cur, h => ⟨cur, h, rfl, fun _ _ => rfl, fun _ _ => rfl, fun j hj => absurd hj (by simp)⟩
  | v :: r, o, w, cur, h => by
    obtain ⟨cur', h1, h2, h3, h4, h5⟩ := heap_setCells g t r (o + 1) (w.setCell ⟨g, o, none⟩ v) _ (heap_setCell_same w g o cur t v h)
    refine ⟨cur', h1, by simpa using h2, fun j hj => ?_, fun j hj => ?_, fun j hj hs => ?_⟩
    · rw [h3 j (by omega), Array.getElem?_setIfInBounds, if_neg (by omega)]
    · simp only [List.length_cons] at hj
      rw [h4 j (by omega), Array.getElem?_setIfInBounds, if_neg (by omega)]
    · cases j with
      | zero => rw [h3 (o + 0) (by omega), Array.getElem?_setIfInBounds, if_pos (by omega), if_pos (by omega)]; rfl
      | succ j =>
        simp only [List.length_cons] at hj
        have := h5 j (by omega) (by simp; omega)
        rw [show o + (j + 1) = o + 1 + j by omega, this]; rfl
theorem grown_setCells (g : Nat) : ∀ (vs : List Value) (o : Nat) (w : World), w.grownBy (w.setCells g o vs) (some g)
  | [], _, w => ⟨rfl, rfl, rfl, Nat.le_refl _, fun _ _ _ => rfl⟩
  | v :: r, o, w => by
    have h1 : w.grownBy (w.setCell ⟨g, o, none⟩ v) (some g) := ⟨rfl, rfl, rfl, by simp [World.setCell], fun k _ hk => Below.heap_setCell _ _ _ _ (by intro e; subst e; exact hk rfl)⟩
    exact h1.trans (grown_setCells g r (o + 1) _)
theorem flat_get {α : Type} (f : α → List Value) (k : Nat) (hk : ∀ x, (f x).length = k) (h0 : 0 < k) (l : List α) (j : Nat) : (l.flatMap f)[j]? = (l[j / k]?).bind fun x => (f x)[j % k]? := by
  have hlen : ∀ l : List α, (l.flatMap f).length = l.length * k := by
    intro l
    induction l with
    | nil => simp
    | cons x r ih => rw [List.flatMap_cons, List.length_append, ih, hk, List.length_cons, Nat.add_mul]; omega
  cases hx : l[j / k]? with
  | some x =>
    have hm : j % k < (f x).length := by rw [hk]; exact Nat.mod_lt _ h0
    have := flat_at f k hk l (j / k) x hx (j % k) _ (List.getElem?_eq_getElem hm)
    rw [Nat.div_add_mod' j k] at this
    rw [this]
    exact (List.getElem?_eq_getElem hm).symm
  | none =>
    rw [List.getElem?_eq_none_iff] at hx
    rw [Option.bind_none, List.getElem?_eq_none_iff, hlen]
    exact Nat.le_trans (Nat.mul_le_mul_right k hx) (Nat.div_mul_le_self j k)
theorem div_other {k i j : Nat} (h0 : 0 < k) (h : i ≠ j / k) (h5 : i * k ≤ j) : i * k + k ≤ j := by
  have h6 : i ≤ j / k := (Nat.le_div_iff_mul_le h0).2 h5
  have h7 : i + 1 ≤ j / k := by omega
  have := (Nat.le_div_iff_mul_le h0).1 h7
  rw [Nat.add_mul] at this
  omega
theorem flat_set {α : Type} (f : α → List Value) (k : Nat) (hk : ∀ x, (f x).length = k) (h0 : 0 < k) (d : List α) (i : Nat) (x : α) (cur cur' : List Value) (h4 : cur.take (d.length * k) = d.flatMap f)
    (k3 : ∀ j, j < i * k → cur'[j]? = cur[j]?) (k4 : ∀ j, i * k + k ≤ j → cur'[j]? = cur[j]?) (k5 : ∀ j, j < k → cur'[i * k + j]? = (f x)[j]?) (hi : i < d.length) :
    cur'.take (d.length * k) = (d.set i x).flatMap f := by
  apply List.ext_getElem?
  intro j
  rw [flat_get f k hk h0, List.getElem?_take, List.getElem?_set]
  by_cases hj : j < d.length * k
  · rw [if_pos hj]
    by_cases hji : i = j / k
    · rw [if_pos hji, if_pos hi, Option.bind_some, ← k5 (j % k) (Nat.mod_lt _ h0), hji, Nat.div_add_mod']
    · rw [if_neg hji, ← flat_get f k hk h0, ← h4, List.getElem?_take, if_pos hj]
      rcases Nat.lt_or_ge j (i * k) with h5 | h5
      · exact k3 j h5
      · exact k4 j (div_other h0 hji h5)
  · rw [if_neg hj]
    have h6 : ¬ j / k < d.length := fun e => hj ((Nat.div_lt_iff_lt_mul h0).1 e)
    by_cases hji : i = j / k
    · exact absurd (hji ▸ hi) h6
    · rw [if_neg hji, List.getElem?_eq_none (Nat.le_of_not_lt h6), Option.bind_none]
theorem RowE.form {B g n cap : Nat} {w : World} {d : List EV} (h : RowE B w (.slice (some ⟨g, 0, none⟩) n cap) d) :
    ∃ cur : Array Value, n = d.length ∧ B ≤ g ∧ w.heap[g]? = some (.cells cur 161 (0, 0)) ∧ d.length ≤ cap ∧ cap ≤ maxLen ∧ cur.size = cap * 9 ∧ cur.toList.take (d.length * 9) = d.flatMap entV := by
  rcases h.2 with ⟨h0, _⟩ | ⟨g', cap', cur, hv, hb, hg, h1, h2, h3, h4⟩
  · cases h0
  · injection hv with e1 e2 e3
    injection e1 with e1
    injection e1 with e1
    subst e1 e2 e3
    exact ⟨cur, rfl, hb, hg, h1, h2, h3, h4⟩
theorem RowE.mk {B g n cap : Nat} {w : World} {d : List EV} {cur : Array Value} (hn : n = d.length) (hb : B ≤ g) (hg : w.heap[g]? = some (.cells cur 161 (0, 0))) (h1 : d.length ≤ cap) (h2 : cap ≤ maxLen) (h3 : cur.size = cap * 9)
    (h4 : cur.toList.take (d.length * 9) = d.flatMap entV) : RowE B w (.slice (some ⟨g, 0, none⟩) n cap) d := by
  subst hn
  exact ⟨ents_len d, .inr ⟨g, cap, cur, rfl, hb, hg, h1, h2, h3, h4⟩⟩
theorem RowE.set {B g n cap : Nat} {w : World} {d : List EV} (h : RowE B w (.slice (some ⟨g, 0, none⟩) n cap) d) {i : Nat} (hi : i < d.length) (x : EV) :
    RowE B (w.setCells g (i * 9) (entV x)) (.slice (some ⟨g, 0, none⟩) n cap) (d.set i x) := by
  obtain ⟨cur, hn, hb, hg, h1, h2, h3, h4⟩ := h.form
  generalize hv : entV x = vs
  have hvl : vs.length = 9 := by rw [← hv, entV_len]
  obtain ⟨cur', k1, k2, k3, k4, k5⟩ := heap_setCells g _ vs (i * 9) w cur hg
  rw [hvl] at k4 k5
  have hs : d.length * 9 ≤ cur.size := by rw [h3]; exact Nat.mul_le_mul_right 9 h1
  have hj9 : ∀ j, j < 9 → i * 9 + j < cur.size := fun j hj => by clear h2; omega
  have key := flat_set entV 9 entV_len (by decide) d i x cur.toList cur'.toList h4 (fun j hj => by rw [Array.getElem?_toList, Array.getElem?_toList]; exact k3 j hj)
    (fun j hj => by rw [Array.getElem?_toList, Array.getElem?_toList]; exact k4 j hj) (fun j hj => by rw [Array.getElem?_toList, hv]; exact k5 j hj (hj9 j hj)) hi
  have hl : (d.set i x).length = d.length := List.length_set
  exact RowE.mk (by rw [hl]; exact hn) hb k1 (by rw [hl]; exact h1) h2 (by rw [k2]; exact h3) (by rw [hl]; exact key)
theorem RowE.cut {B g n cap : Nat} {w : World} {d : List EV} (h : RowE B w (.slice (some ⟨g, 0, none⟩) n cap) d) {i : Nat} (hi : i ≤ d.length) (zs : List Value) :
    RowE B (w.setCells g (i * 9) zs) (.slice (some ⟨g, 0, none⟩) i cap) (d.take i) := by
  rcases h.2 with ⟨h0, _⟩ | ⟨g', cap', cur, hv, hb, hg, h1, h2, h3, h4⟩
  · cases h0
  · injection hv with e1 e2 e3
    injection e1 with e1
    injection e1 with e1
    subst e1 e2 e3
    obtain ⟨cur', k1, k2, k3, k4, k5⟩ := heap_setCells g _ zs (i * 9) w cur hg
    have hl : (d.take i).length = i := by rw [List.length_take]; omega
    refine ⟨by rw [ents_len], .inr ⟨g, cap, cur', by rw [hl], hb, k1, by rw [hl]; omega, h2, by rw [k2]; exact h3, ?_⟩⟩
    rw [hl]
    apply List.ext_getElem?
    intro j
    rw [flat_get entV 9 entV_len (by decide), List.getElem?_take, List.getElem?_take]
    by_cases hj : j < i * 9
    · rw [if_pos hj, if_pos (by omega), Array.getElem?_toList, k3 j hj, ← flat_get entV 9 entV_len (by decide), ← h4, List.getElem?_take, if_pos (by omega), Array.getElem?_toList]
    · rw [if_neg hj, if_neg (by omega)]; rfl
theorem RowE.frozen {B g n cap : Nat} {w : World} {d : List EV} (h : RowE B w (.slice (some ⟨g, 0, none⟩) n cap) d) (j : Nat) : w.frozen? ⟨g, j, none⟩ = false := World.ownsRow.frozenAt (n := d.length) (cap := cap) (xs := d.flatMap entV) (by
  rcases h.2 with ⟨h0, _⟩ | ⟨g', cap', cur, hv, hb, hg, h1, h2, h3, h4⟩
  · cases h0
  · injection hv with e1 e2 e3
    injection e1 with e1
    injection e1 with e1
    subst e1 e2 e3
    exact h) j

/-- What a test of entries does: it says p, and makes new memory at most. -/
def Tests (F : FuncId) (cap : Array Value) (p : EV → Bool) (w : World) (row : Option Nat) : Prop :=
  ∀ (W : World) (x : EV), w.grownBy W row → Calls Tryz.prog F (#[.agg (entV x).toArray] ++ cap) W fun e w' => e = .returned (.bool (p x)) ∧ Below W.heap.size W w'
def idxOf (l : List EV) (p : EV → Bool) : Int := match l.findIdx? p with | some k => (k : Int) | none => -1
theorem idx_hit {l : List EV} {p : EV → Bool} {k : Nat} {x : EV} (hx : l[k]? = some x) (hp : p x = true) (h : ∀ j y, j < k → l[j]? = some y → p y = false) : idxOf l p = k := by
  unfold idxOf
  have : l.findIdx? p = some k := by
    rw [List.findIdx?_eq_some_iff_getElem]
    obtain ⟨hk, rfl⟩ := List.getElem?_eq_some_iff.1 hx
    exact ⟨hk, hp, fun j hj => by simp [h j (l[j]'(by omega)) hj (List.getElem?_eq_getElem _)]⟩
  rw [this]
theorem idx_miss {l : List EV} {p : EV → Bool} (h : ∀ j y, j < l.length → l[j]? = some y → p y = false) : idxOf l p = -1 := by
  unfold idxOf
  have : l.findIdx? p = none := by
    rw [List.findIdx?_eq_none_iff]
    intro x hx
    obtain ⟨j, hj⟩ := List.mem_iff_getElem?.1 hx
    exact h j x (List.getElem?_eq_some_iff.1 hj).1 hj
  rw [this]
theorem RowE.val {B : Nat} {w : World} {v : Value} {l : List EV} (h : RowE B w v l) : ∃ a cap, v = .slice a l.length cap ∧ l.length ≤ cap ∧ cap ≤ maxLen ∧ (l ≠ [] → ∃ g, a = some ⟨g, 0, none⟩ ∧ B ≤ g ∧ g < w.heap.size) := by
  rcases h.2 with ⟨rfl, hn⟩ | ⟨g, cap, cur, rfl, hb, hg, h1, h2, _⟩
  · exact ⟨_, _, by rw [hn], by omega, by unfold maxLen; omega, fun h => absurd (List.eq_nil_of_length_eq_zero hn) h⟩
  · exact ⟨_, _, rfl, h1, h2, fun _ => ⟨g, rfl, hb, (Array.getElem?_eq_some_iff.1 hg).1⟩⟩

set_option maxHeartbeats 1600000 in
set_option maxRecDepth 100000 in
theorem index_any (B F : Nat) (cap : Array Value) (p : EV → Bool) (v : Value) (l : List EV) (w : World) (enters : ∀ args w, (callFunc F args).run Tryz.prog w = .ok (.enter F args) w)
    {row : Option Nat} (ht : Tests F cap p w row) (h : RowE B w v l) :
    Calls Tryz.prog 112 #[v, .func (.func F) #[] cap] w fun e w' => e = .returned (.int .i64 (idxOf l p)) ∧ Below w.heap.size w w' := by
  obtain ⟨a, cp, rfl, hcap, hm, hg⟩ := h.val
  unfold maxLen at hm
  have Ht := Lib.hid ht
  clear ht
  go_enter Tryz.func112, Tryz.ntmps112
  go_wp2
  go_loopw [8] (fun i wr => ∃ k : Nat, k ≤ l.length ∧ i = .int .i64 k ∧ Hid (∀ j y, j < k → l[j]? = some y → p y = false) ∧ Below w.heap.size w wr) (fun i _ => l.length - (intOf i).toNat)
  case atStart => exact ⟨0, Nat.zero_le _, rfl, fun j _ hj => absurd hj (Nat.not_lt_zero j), Below.refl _ _⟩
  case round =>
    obtain ⟨k, hk, rfl, hno, hB⟩ := hrel
    by_cases hlt : k < l.length
    · obtain ⟨g, rfl, hBg, hgs⟩ := hg (by intro e; rw [e] at hlt; simp at hlt)
      obtain ⟨x, hx⟩ : ∃ x, l[k]? = some x := ⟨l[k], List.getElem?_eq_getElem hlt⟩
      have hr := h.later hB
      have hcall := Lib.hid (Ht.out wr x (grown_of_below hB))
      have c0 : wr.cell? ⟨g, k * 9, none⟩ = _ := hr.cells hx (i := 0) rfl
      have c1 := hr.cells hx (i := 1) rfl
      have c2 := hr.cells hx (i := 2) rfl
      have c3 := hr.cells hx (i := 3) rfl
      have c4 := hr.cells hx (i := 4) rfl
      have c5 := hr.cells hx (i := 5) rfl
      have c6 := hr.cells hx (i := 6) rfl
      have c7 := hr.cells hx (i := 7) rfl
      have c8 := hr.cells hx (i := 8) rfl
      have Hx := Lib.hid hx
      have hk0 : (0 : Int) ≤ k := by omega
      have hlt' : (k : Int) < l.length := by omega
      clear hx hr hg
      cases hp : p x with
      | true =>
        rw [hp] at hcall
        go_wp2_with (go_at_fn F; refine hcall.out.mono ?_; rintro e w' ⟨rfl, hb'⟩)
        go_ret
        exact ⟨by rw [idx_hit Hx.out hp hno]; rfl, hB.trans (hb'.mono hB.size)⟩
      | false =>
        rw [hp] at hcall
        go_wp2_with (go_at_fn F; refine hcall.out.mono ?_; rintro e w' ⟨rfl, hb'⟩)
        refine ⟨⟨k + 1, by omega, by go_num, (show Hid _ from fun j y hj hy => ?_), hB.trans (hb'.mono hB.size)⟩, by simp [intOf]; omega⟩
        rcases Nat.lt_or_ge j k with h1 | h1
        · exact hno j y h1 hy
        · obtain rfl : j = k := by omega
          rw [Hx.out] at hy
          injection hy with hy
          rw [← hy]; exact hp
    · have hke : k = l.length := by omega
      subst hke
      go_wp2
      go_ret
      exact ⟨by rw [idx_miss hno]; rfl, hB⟩
end Go.Proofs.YtajllcbjgndcpaaGreatDoor
