/- WALK: Delete of one entry. -/
import Derived.Test.YtajllcbjgndcpaaGreatDoorK4
import Derived.Deep.RegionLaw
namespace Go.Proofs.YtajllcbjgndcpaaGreatDoor
open Go.RowKit Go.Maps

theorem info75 : (Tryz.prog.info? 161).map (fun i => (i.zero, i.size, i.bytes)) = some (some (.agg zeroE.toArray), 9, 128) := by kernel_rfl
theorem entV_one (l : List EV) : ∀ u ∈ l.flatMap entV, u.oneCell' = true := by
  intro u hu
  obtain ⟨x, _, hx⟩ := List.mem_flatMap.1 hu
  simp only [entV, List.mem_cons, List.not_mem_nil, or_false] at hx
  rcases hx with rfl | rfl | rfl | rfl | rfl | rfl | rfl | rfl | rfl <;> rfl

theorem flat_erase {α : Type} (f : α → List Value) (k : Nat) (hk : ∀ x, (f x).length = k) (l : List α) (i : Nat) (cur cur' : List Value) (h4 : cur.take (l.length * k) = l.flatMap f)
    (k3 : ∀ j, j < i * k → cur'[j]? = cur[j]?) (k5 : ∀ j, j < ((l.drop (i + 1)).flatMap f).length → cur'[i * k + j]? = ((l.drop (i + 1)).flatMap f)[j]?) (hi : i < l.length) :
    cur'.take ((l.length - 1) * k) = (l.eraseIdx i).flatMap f := by
  have hlen : ∀ l : List α, (l.flatMap f).length = l.length * k := by
    intro l
    induction l with
    | nil => simp
    | cons x r ih => rw [List.flatMap_cons, List.length_append, ih, hk, List.length_cons, Nat.add_mul]; omega
  rw [List.eraseIdx_eq_take_drop_succ, List.flatMap_append]
  have hik : i * k ≤ l.length * k := Nat.mul_le_mul_right k (Nat.le_of_lt hi)
  have h1 : cur.take (i * k) = (l.take i).flatMap f := by
    have : cur.take (i * k) = (cur.take (l.length * k)).take (i * k) := by rw [List.take_take, Nat.min_eq_left hik]
    rw [this, h4]
    conv => lhs; rw [← List.take_append_drop i l, List.flatMap_append]
    rw [List.take_append_of_le_length (by rw [hlen, List.length_take, Nat.min_eq_left (Nat.le_of_lt hi)]; exact Nat.le_refl _), List.take_of_length_le (by rw [hlen, List.length_take, Nat.min_eq_left (Nat.le_of_lt hi)]; exact Nat.le_refl _)]
  have hdl : ((l.drop (i + 1)).flatMap f).length = (l.length - 1) * k - i * k := by rw [hlen, List.length_drop, ← Nat.sub_mul]; congr 1; omega
  have hle : i * k ≤ (l.length - 1) * k := Nat.mul_le_mul_right k (by omega)
  apply List.ext_getElem?
  intro j
  rw [List.getElem?_take]
  by_cases hj : j < (l.length - 1) * k
  · rw [if_pos hj]
    by_cases hj2 : j < i * k
    · rw [List.getElem?_append_left (by rw [hlen, List.length_take, Nat.min_eq_left (Nat.le_of_lt hi)]; exact hj2), ← h1, List.getElem?_take, if_pos hj2, k3 j hj2]
    · rw [List.getElem?_append_right (by rw [hlen, List.length_take, Nat.min_eq_left (Nat.le_of_lt hi)]; omega), hlen, List.length_take, Nat.min_eq_left (Nat.le_of_lt hi), ← k5 (j - i * k) (by rw [hdl]; omega)]
      congr 1; omega
  · rw [if_neg hj, List.getElem?_eq_none]
    rw [List.length_append, hdl, hlen, List.length_take, Nat.min_eq_left (Nat.le_of_lt hi)]; omega

theorem RowE.erase {B g n cap : Nat} {w : World} {l : List EV} (h : RowE B w (.slice (some ⟨g, 0, none⟩) n cap) l) {i : Nat} (hi : i < l.length) :
    RowE B (w.setCells g (i * 9) ((l.drop (i + 1)).flatMap entV)) (.slice (some ⟨g, 0, none⟩) (l.length - 1) cap) (l.eraseIdx i) := by
  obtain ⟨cur, hn, hb, hg, h1, h2, h3, h4⟩ := h.form
  have hvl : ((l.drop (i + 1)).flatMap entV).length = (l.length - (i + 1)) * 9 := by rw [ents_len, List.length_drop]
  generalize hv : (l.drop (i + 1)).flatMap entV = vs at *
  obtain ⟨cur', k1, k2, k3, k4, k5⟩ := heap_setCells g _ vs (i * 9) w cur hg
  have hs : l.length * 9 ≤ cur.size := by rw [h3]; exact Nat.mul_le_mul_right 9 h1
  have hj9 : ∀ j, j < vs.length → i * 9 + j < cur.size := fun j hj => by clear h2 h3; omega
  have key := flat_erase entV 9 entV_len l i cur.toList cur'.toList h4 (fun j hj => by rw [Array.getElem?_toList, Array.getElem?_toList]; exact k3 j hj)
    (fun j hj => by rw [hv] at hj ⊢; rw [Array.getElem?_toList]; exact k5 j hj (hj9 j hj)) hi
  have hl : (l.eraseIdx i).length = l.length - 1 := List.length_eraseIdx_of_lt hi
  exact RowE.mk (by rw [hl]) hb k1 (by rw [hl]; omega) h2 (by rw [k2]; exact h3) (by rw [hl]; exact key)

set_option maxHeartbeats 3200000 in
set_option maxRecDepth 100000 in
theorem delete_any (B : Nat) (v : Value) (l : List EV) (k : Nat) (w : World) (h : RowE B w v l) (hk : k < l.length) :
    Calls Tryz.prog 114 #[v, .int .i64 k, .int .i64 (k + 1 : Nat)] w (DelEnd B w v (l.eraseIdx k)) := by
  obtain ⟨a, cp, rfl, hcap, hm, hg⟩ := h.val
  unfold maxLen at hm
  obtain ⟨g, rfl, hBg, hgs⟩ := hg (by intro e; rw [e] at hk; simp at hk)
  obtain ⟨i0, hi0, hz0, hz1, hz2⟩ := info_parts info75
  obtain ⟨A, hA, hsrc⟩ : ∃ A : Addr, (if cp = k + 1 then some (⟨g, 0, none⟩ : Addr) else some ⟨g, (k + 1) * 9, none⟩) = some A ∧ Hid (∀ t u, ((l.drop (k + 1)).flatMap entV)[t]? = some u → w.drew.cell? (A.add t) = some u) := by
    by_cases hc : cp = k + 1
    · refine ⟨⟨g, 0, none⟩, by simp [hc], fun t u hu => ?_⟩
      rw [List.drop_eq_nil_of_le (by omega)] at hu
      simp at hu
    · refine ⟨⟨g, (k + 1) * 9, none⟩, by simp [hc], fun t u hu => ?_⟩
      have ht := (List.getElem?_eq_some_iff.1 hu).1
      rw [flat_get entV 9 entV_len (by decide), List.getElem?_drop, Option.bind_eq_some_iff] at hu
      obtain ⟨x, hx, hu⟩ := hu
      have := h.cells hx hu
      rw [add_at, show (k + 1) * 9 + t = (k + 1 + t / 9) * 9 + t % 9 by omega]
      exact this
  have s1 : Hid (((l.drop (k + 1)).flatMap entV).length = (l.length - (k + 1)) * 9) := by rw [ents_len, List.length_drop]; exact rfl
  have s2 : Hid (∀ u ∈ (l.drop (k + 1)).flatMap entV, u.oneCell' = true) := entV_one _
  have s3 : Hid (∀ t, t < ((l.drop (k + 1)).flatMap entV).length → (w.drew.cell? ⟨g, 0 + k * 9 + t, none⟩).isSome = true ∧ w.drew.frozen? ⟨g, 0 + k * 9 + t, none⟩ = false) := by
    intro t ht
    rw [s1.out] at ht
    refine ⟨?_, h.frozen _⟩
    obtain ⟨y, hy⟩ : ∃ y, l[(k * 9 + t) / 9]? = some y := ⟨l[(k * 9 + t) / 9]'(by omega), List.getElem?_eq_getElem _⟩
    obtain ⟨u, hu⟩ : ∃ u, (entV y)[(k * 9 + t) % 9]? = some u := ⟨(entV y)[(k * 9 + t) % 9]'(by rw [entV_len]; omega), List.getElem?_eq_getElem _⟩
    have := h.cells hy hu
    rw [show (k * 9 + t) / 9 * 9 + (k * 9 + t) % 9 = 0 + k * 9 + t by omega] at this
    show (w.cell? _).isSome = true
    rw [this]; rfl
  have hrow1 := RowE.erase (w := w.drew) h hk
  have hgr1 : w.grownBy (w.drew.setCells g (k * 9) ((l.drop (k + 1)).flatMap entV)) (some g) := World.grownBy.trans (b := w.drew) ⟨rfl, rfl, rfl, Nat.le_refl _, fun _ _ _ => rfl⟩ (grown_setCells g _ _ _)
  obtain ⟨W1, hW1⟩ : ∃ W1, W1 = w.drew.setCells g (0 + k * 9) ((l.drop (k + 1)).flatMap entV) := ⟨_, rfl⟩
  rw [show 0 + k * 9 = k * 9 by omega] at hW1
  rw [← hW1] at hrow1 hgr1
  have hcl := fun ty => run_clear_ents W1 ty g ((l.length - 1) * 9) 1 (cp - (l.length - 1)) (by omega) (fun t ht => by
      rw [hW1]
      refine World.isSome_setCells g _ _ _ _ ?_
      obtain ⟨y, hy⟩ : ∃ y, l[((l.length - 1) * 9 + t) / 9]? = some y := ⟨l[((l.length - 1) * 9 + t) / 9]'(by omega), List.getElem?_eq_getElem _⟩
      obtain ⟨u, hu⟩ : ∃ u, (entV y)[((l.length - 1) * 9 + t) % 9]? = some u := ⟨(entV y)[((l.length - 1) * 9 + t) % 9]'(by rw [entV_len]; omega), List.getElem?_eq_getElem _⟩
      have := h.cells hy hu
      rw [show ((l.length - 1) * 9 + t) / 9 * 9 + ((l.length - 1) * 9 + t) % 9 = (l.length - 1) * 9 + t by omega] at this
      show (w.cell? _).isSome = true
      rw [this]; rfl) (fun t _ => by rw [hW1, World.frozen?_setCells]; exact h.frozen _)
  have hl : (l.eraseIdx k).length = l.length - 1 := List.length_eraseIdx_of_lt hk
  have hcut := hrow1.cut (i := l.length - 1) (by omega) (Builtin.zeroCells zeroE.toArray 1).toList
  rw [List.take_of_length_le (by omega)] at hcut
  have hgr2 := hgr1.trans (grown_setCells g (Builtin.zeroCells zeroE.toArray 1).toList ((l.length - 1) * 9) W1)
  have hW : Hid (W1 = w.drew.setCells g (0 + k * 9) ((l.drop (k + 1)).flatMap entV)) := by rw [show 0 + k * 9 = k * 9 by omega]; exact hW1
  have hkk : ((k : Int) == (k : Int) + 1) = false := by rw [beq_eq_false_iff_ne]; omega
  have hkc : k ≤ cp := by omega
  have hone1 : l.length - (l.length - 1) = 1 := by omega
  have hk1 : k + 1 ≤ l.length := by omega
  have hki : (k : Int) + 1 ≤ (l.length : Int) := by omega
  have hkj : (k : Int) ≤ (l.length : Int) := by omega
  have hkp : (0 : Int) ≤ (k : Int) + 1 := by omega
  have hkn : ((k : Int) + 1).toNat = k + 1 := by omega
  have hkc1 : k + 1 ≤ cp := by omega
  have Hcut := Lib.hid hcut
  have Hgr2 := Lib.hid hgr2
  have hsum : k + (l.length - (k + 1)) = l.length - 1 := by omega
  clear hW1 hrow1 hgr1 h hcut hgr2 hz0 hz2 hl hg
  go_enter Tryz.func114, Tryz.ntmps114
  go_wp2_with fail
  go_region_law (refine step_append_room rfl (.tmp 22) (.tmp 25) 151 rfl 161 i0 9 Tryz.underlying151 hi0 hz1 g 0 k cp (by simp [Act.eval, Act.put]) A (l.length - (k + 1)) (cp - (k + 1)) ((l.drop (k + 1)).flatMap entV) (by simp [Act.eval, Act.put]) s1.out hsrc.out s2.out (by omega) s3.out ?_; rw [← hW.out, hsum])
  go_wp2
  go_ret
  exact ⟨_, rfl, Hcut.out, .inr rfl, Hgr2.out⟩
end Go.Proofs.YtajllcbjgndcpaaGreatDoor
