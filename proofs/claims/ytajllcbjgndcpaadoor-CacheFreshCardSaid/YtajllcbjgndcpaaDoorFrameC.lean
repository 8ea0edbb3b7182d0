/- THE FRAME's WORDS for caches: records, steps and lists of steps that came in. -/
import Derived.Test.YtajllcbjgndcpaaDoorFrame
import Derived.Test.YtajllcbjgndcpaaDoorK17
import Derived.Deep.Slices
namespace Go.Proofs.YtajllcbjgndcpaaDoor
open Go.ChangeShapes Go.WideShapes Go.ChangeAt Go.RowKit Go.Deep

section
variable {H : Type} {enc : TypeId × Value → H} {W : World}
theorem field_at {t : TypeId} {fs : Array Field} {fuel : Nat} {cs : List Value} {x : DataW H × List MemPlace} (ht : Tryd.prog.underlying t = some (.struct fs)) (h : DataW.trod enc Tryd.prog W 0 (fun _ => true) true fuel t cs = some x) {j : Nat} {f : Field} (hj : fs[j]? = some f) {k : Nat} (hk : Tryd.prog.cellsOf f.type = k) :
    ∃ n y, DataW.trod enc Tryd.prog W 0 (fun _ => true) true n f.type ((cs.drop f.offset).take k) = some y := by
  obtain ⟨ys, n', _, _, _, hyl, hf⟩ := DataW.trod_struct ht h
  have hjl : j < ys.length := by rw [hyl]; exact (Array.getElem?_eq_some_iff.1 hj).1
  have h1 := hf j f hj
  rw [hk, List.getElem?_eq_getElem hjl] at h1
  exact ⟨n', _, h1⟩
theorem bs_of (s : ByteArray) : (⟨s.data.toList.toArray⟩ : ByteArray) = s := by simp
theorem rec_cells {n : Nat} {cs : List Value} {x : DataW H × List MemPlace} (hl : cs.length = 4) (h : DataW.trod enc Tryd.prog W 0 (fun _ => true) true n 39 cs = some x) : ∃ r : Cb.Rec, cs = recV r := by
  match cs, hl with
  | [c0, c1, c2, c3], _ =>
    obtain ⟨m0, y0, h0⟩ := field_at Tryd.underlying39 h (j := 0) rfl (k := 1) (by kernel_rfl)
    obtain ⟨m1, y1, h1⟩ := field_at Tryd.underlying39 h (j := 1) rfl (k := 1) (by kernel_rfl)
    obtain ⟨m2, y2, h2⟩ := field_at Tryd.underlying39 h (j := 2) rfl (k := 1) (by kernel_rfl)
    obtain ⟨m3, y3, h3⟩ := field_at Tryd.underlying39 h (j := 3) rfl (k := 1) (by kernel_rfl)
    obtain ⟨s0, e0, _⟩ := DataW.trod_string Tryd.underlying9 h0
    obtain ⟨i1, e1, _⟩ := DataW.trod_int Tryd.underlying3 h1
    obtain ⟨i2, e2, _⟩ := DataW.trod_int Tryd.underlying3 h2
    obtain ⟨s3, e3, _⟩ := DataW.trod_string Tryd.underlying9 h3
    simp at e0 e1 e2 e3
    subst e0 e1 e2 e3
    exact ⟨⟨s0.data.toList, i1, i2, s3.data.toList⟩, by unfold recV; rw [bs_of, bs_of]⟩
theorem recs_cells {n : Nat} {cs : List Value} {x : DataW H × List MemPlace} (h : DataW.trod enc Tryd.prog W 0 (fun _ => true) true n 29 cs = some x) : ∃ (a : Option Addr) (l : List Cb.Rec) (cap : Nat), cs = [.slice a l.length cap] ∧ Recs W.heap.size W (.slice a l.length cap) l := by
  rcases open_slice Tryd.underlying29 h with ⟨rfl, _⟩ | ⟨a, len, cap, m, k, D, Pl, rfl, _, hl, hm, hmm, _, hx⟩
  · exact ⟨none, [], 0, rfl, none, 0, rfl, Nat.le_refl _, by unfold maxLen; omega, fun h => absurd rfl h⟩
  · simp only [if_true] at hmm
    have hce : Tryd.prog.cellsOf 39 = 4 := by kernel_rfl
    rw [hce] at hx
    obtain ⟨R, hR⟩ := choose_lt (α := Cb.Rec) (n := len) (p := fun i r => ∀ j u, (recV r)[j]? = some u → W.cell? (a.add (i * 4 + j)) = some u) (fun i hi => by
      obtain ⟨cs', hc, ht⟩ := hx i (by omega)
      obtain ⟨_, hcl, hat⟩ := World.cells?_some hc
      obtain ⟨r, rfl⟩ := rec_cells hcl ht
      refine ⟨r, fun j u hu => ?_⟩
      have hj : j < 4 := by have := (List.getElem?_eq_some_iff.1 hu).1; rwa [recV_len] at this
      have := hat j hj
      rw [add_add] at this
      rw [this, hu])
    refine ⟨some a, (List.range len).map R, cap, by simp, some a, cap, rfl, by simp; omega, hm, fun hn => ?_⟩
    have hpos : 0 < len := by
      rcases Nat.eq_zero_or_pos len with h0 | h0
      · subst h0; simp at hn
      · exact h0
    obtain ⟨b, off, spot⟩ := a
    have hc := hR 0 hpos 0 _ rfl
    have hspot : spot = none := by simpa [Addr.add] using World.cell?_spot hc
    subst hspot
    have hb : b < W.heap.size := by have := World.block_lt_of_cell? W _ hc; simpa [Addr.add] using this
    refine ⟨b, off, rfl, hb, .inl hb, fun j y hy i u hu => ?_⟩
    rw [List.getElem?_map, Option.map_eq_some_iff] at hy
    obtain ⟨i', hi', rfl⟩ := hy
    obtain ⟨hj, hi2⟩ := List.getElem?_eq_some_iff.1 hi'
    rw [List.length_range] at hj
    rw [List.getElem_range] at hi2
    subst hi2
    have := hR j hj i u hu
    rw [add_at] at this
    rw [← this, Nat.add_assoc]
theorem slice_cap {n : Nat} {cs : List Value} {x : DataW H × List MemPlace} {t e : TypeId} (ht : Tryd.prog.underlying t = some (.slice e)) (h : DataW.trod enc Tryd.prog W 0 (fun _ => true) true n t cs = some x) : ∃ (a : Option Addr) (len cap : Nat), cs = [.slice a len cap] ∧ len ≤ cap ∧ cap ≤ maxLen := by
  rcases open_slice ht h with ⟨rfl, _⟩ | ⟨a, len, cap, m, k, D, Pl, rfl, _, hl, hm, _⟩
  · exact ⟨none, 0, 0, rfl, Nat.le_refl _, by unfold maxLen; omega⟩
  · exact ⟨some a, len, cap, rfl, hl, hm⟩
theorem rp_cells {n : Nat} {cs : List Value} {x : DataW H × List MemPlace} (hl : cs.length = 5) (h : DataW.trod enc Tryd.prog W 0 (fun _ => true) true n 31 cs = some x) : ∃ r : RP, cs = rpV r ∧ ROk W.heap.size W r := by
  match cs, hl with
  | [c0, c1, c2, c3, c4], _ =>
    obtain ⟨m0, y0, h0⟩ := field_at Tryd.underlying31 h (j := 0) rfl (k := 1) (by kernel_rfl)
    obtain ⟨m1, y1, h1⟩ := field_at Tryd.underlying31 h (j := 1) rfl (k := 1) (by kernel_rfl)
    obtain ⟨m2, y2, h2⟩ := field_at Tryd.underlying31 h (j := 2) rfl (k := 1) (by kernel_rfl)
    obtain ⟨m3, y3, h3⟩ := field_at Tryd.underlying31 h (j := 3) rfl (k := 1) (by kernel_rfl)
    obtain ⟨m4, y4, h4⟩ := field_at Tryd.underlying31 h (j := 4) rfl (k := 1) (by kernel_rfl)
    obtain ⟨i0, e0, _⟩ := DataW.trod_int Tryd.underlying3 h0
    obtain ⟨a1, l1, cap1, e1, hr1⟩ := recs_cells h1
    obtain ⟨a2, n2, cap2, e2, hr2, hr2'⟩ := slice_cap Tryd.underlying29 h2
    obtain ⟨a3, n3, cap3, e3, hr3, hr3'⟩ := slice_cap Tryd.underlying29 h3
    obtain ⟨i4, e4, _⟩ := DataW.trod_int Tryd.underlying3 h4
    simp at e0 e1 e2 e3 e4
    subst e0 e1 e2 e3 e4
    exact ⟨⟨⟨i0, l1, n2, n3, i4⟩, a1, cap1, a2, cap2, a3, cap3⟩, rfl, hr1, ⟨hr2, hr2'⟩, ⟨hr3, hr3'⟩⟩
theorem step_cells {n : Nat} {cs : List Value} {x : DataW H × List MemPlace} (hl : cs.length = 9) (h : DataW.trod enc Tryd.prog W 0 (fun _ => true) true n 33 cs = some x) : ∃ r : St, cs = stepV r ∧ ROk W.heap.size W r.r := by
  match cs, hl with
  | [c0, c1, c2, c3, c4, c5, c6, c7, c8], _ =>
    obtain ⟨m0, y0, h0⟩ := field_at Tryd.underlying33 h (j := 0) rfl (k := 1) (by kernel_rfl)
    obtain ⟨m1, y1, h1⟩ := field_at Tryd.underlying33 h (j := 1) rfl (k := 1) (by kernel_rfl)
    obtain ⟨m2, y2, h2⟩ := field_at Tryd.underlying33 h (j := 2) rfl (k := 1) (by kernel_rfl)
    obtain ⟨m3, y3, h3⟩ := field_at Tryd.underlying33 h (j := 3) rfl (k := 5) (by kernel_rfl)
    obtain ⟨m4, y4, h4⟩ := field_at Tryd.underlying33 h (j := 4) rfl (k := 1) (by kernel_rfl)
    obtain ⟨b0, e0, _⟩ := DataW.trod_bool Tryd.underlying4 h0
    obtain ⟨s1, e1, _⟩ := DataW.trod_string Tryd.underlying9 h1
    obtain ⟨i2, e2, _⟩ := DataW.trod_int Tryd.underlying3 h2
    obtain ⟨r, e3, hr⟩ := rp_cells rfl h3
    obtain ⟨i4, e4, _⟩ := DataW.trod_int Tryd.underlying3 h4
    simp at e0 e1 e2 e4
    subst e0 e1 e2 e4
    have e3' : [c3, c4, c5, c6, c7] = rpV r := e3
    unfold rpV at e3'
    simp at e3'
    obtain ⟨rfl, rfl, rfl, rfl, rfl⟩ := e3'
    exact ⟨⟨b0, s1.data.toList, i2, r, i4⟩, by unfold stepV; rw [bs_of], hr⟩
theorem stepV_len (x : St) : (stepV x).length = 9 := rfl
set_option maxRecDepth 100000 in
/-- A step that came in. -/
theorem step_came {base : Nat} {v : Value} {d : DataW H} {p : List MemPlace} (hok : Value.okWide Tryd.prog W .any base 33 v) (h : DataW.Trod enc Tryd.prog W 0 (fun _ => true) true 33 v d p) : ∃ x : St, v = .agg (stepV x).toArray ∧ ROk W.heap.size W x.r := by
  obtain ⟨cs, rfl, hsz⟩ := okWide_struct Tryd.underlying33 hok
  have hce : Tryd.prog.cellsOf 33 = 9 := by kernel_rfl
  rw [hce] at hsz
  obtain ⟨fuel, hf⟩ := h
  obtain ⟨l⟩ := cs
  obtain ⟨x, hx, hr⟩ := step_cells (cs := l) (by simpa using hsz) (by simpa [Value.cells] using hf)
  exact ⟨x, by rw [hx], hr⟩
set_option maxRecDepth 100000 in
/-- A list of steps that came in. -/
theorem steps_came {v : Value} {d : DataW H} {p : List MemPlace} (hok : ∃ a len cap, v = .slice a len cap) (h : DataW.Trod enc Tryd.prog W 0 (fun _ => true) true 28 v d p) : ∃ l, Steps W.heap.size W v l := by
  obtain ⟨a0, len0, cap0, rfl⟩ := hok
  obtain ⟨fuel, hf⟩ := h
  rcases open_slice Tryd.underlying28 hf with ⟨hcs, _⟩ | ⟨a, len, cap, m, k, D, Pl, hcs, _, hl, hm, hmm, _, hx⟩
  · simp [Value.cells] at hcs
    obtain ⟨rfl, rfl, rfl⟩ := hcs
    exact ⟨[], none, 0, rfl, Nat.le_refl _, by unfold maxLen; omega, fun h => absurd rfl h, fun x hx => by simp at hx⟩
  · simp [Value.cells] at hcs
    obtain ⟨rfl, rfl, rfl⟩ := hcs
    simp only [if_true] at hmm
    have hce : Tryd.prog.cellsOf 33 = 9 := by kernel_rfl
    rw [hce] at hx
    have hR0 : ∀ i, i < len0 → ∃ r : St, ROk W.heap.size W r.r ∧ ∀ j u, (stepV r)[j]? = some u → W.cell? (a.add (i * 9 + j)) = some u := fun i hi => by
      obtain ⟨cs', hc, ht⟩ := hx i (by omega)
      obtain ⟨_, hcl, hat⟩ := World.cells?_some hc
      obtain ⟨r, rfl, hr⟩ := step_cells hcl ht
      refine ⟨r, hr, fun j u hu => ?_⟩
      have hj : j < 9 := by have := (List.getElem?_eq_some_iff.1 hu).1; rwa [stepV_len] at this
      have := hat j hj
      rw [add_add] at this
      rw [this, hu]
    obtain ⟨R, hR⟩ := @choose_lt St ⟨⟨false, [], 0, noRP, 0⟩⟩ _ _ hR0
    refine ⟨(List.range len0).map R, some a, cap0, by simp, by simp; omega, hm, fun hn => ?_, fun x hx => ?_⟩
    · have hpos : 0 < len0 := by
        rcases Nat.eq_zero_or_pos len0 with h0 | h0
        · subst h0; simp at hn
        · exact h0
      obtain ⟨b, off, spot⟩ := a
      have hc := (hR 0 hpos).2 0 _ rfl
      have hspot : spot = none := by simpa [Addr.add] using World.cell?_spot hc
      subst hspot
      have hb : b < W.heap.size := by have := World.block_lt_of_cell? W _ hc; simpa [Addr.add] using this
      refine ⟨b, off, rfl, hb, fun j y hy i u hu => ?_⟩
      rw [List.getElem?_map, Option.map_eq_some_iff] at hy
      obtain ⟨i', hi', rfl⟩ := hy
      obtain ⟨hj, hi2⟩ := List.getElem?_eq_some_iff.1 hi'
      rw [List.length_range] at hj
      rw [List.getElem_range] at hi2
      subst hi2
      have := (hR j hj).2 i u hu
      rw [add_at] at this
      rw [← this, Nat.add_assoc]
    · obtain ⟨i, hi, rfl⟩ := List.mem_map.1 hx
      exact (hR i (List.mem_range.1 hi)).1
end
end Go.Proofs.YtajllcbjgndcpaaDoor
