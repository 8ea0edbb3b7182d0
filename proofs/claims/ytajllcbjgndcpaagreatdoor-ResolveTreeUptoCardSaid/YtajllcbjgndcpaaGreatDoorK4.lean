/- WALK: DeleteFunc on entries. -/
import Derived.Test.YtajllcbjgndcpaaGreatDoorK3
namespace Go.Proofs.YtajllcbjgndcpaaGreatDoor
open Go.RowKit Go.Maps

def zeroE : List Value := [.string ⟨#[]⟩, .int .i64 0, .int .i64 0, .slice none 0 0, .slice none 0 0, .slice none 0 0, .int .i64 0, .int .i64 0, .int .i64 0]
theorem zeroV (w : World) : (zeroValue 161).run Tryz.prog w = .ok (.agg zeroE.toArray) w := by kernel_rfl
theorem zero_one : ∀ k, k < 9 → (zeroE.toArray[k]!).oneCell' = true := by decide
theorem run_clear_ents (w : World) (ty : TypeId) (g o m c : Nat) (hn : 0 < m) (hc : ∀ j, j < m * 9 → (w.cell? ⟨g, o + j, none⟩).isSome = true) (hf : ∀ j, j < m * 9 → w.frozen? ⟨g, o + j, none⟩ = false) :
    (Builtin.clear_ #[151] ty #[.slice (some ⟨g, o, none⟩) m c]).run Tryz.prog w = .ok (.tuple #[]) (w.setCells g o (Builtin.zeroCells zeroE.toArray m).toList) := by
  have hl : (Builtin.zeroCells zeroE.toArray m).toList.length = m * 9 := by simp [Builtin.zeroCells, zeroE]
  have h1 : ∀ v ∈ (Builtin.zeroCells zeroE.toArray m).toList, v.oneCell' = true := by
    intro v hv
    rw [Builtin.zeroCells, Array.toList_map, List.mem_map] at hv
    obtain ⟨i, _, rfl⟩ := hv
    exact zero_one (i % 9) (Nat.mod_lt _ (by decide))
  have hst := run_storeCells_cells (P := Tryz.prog) g o (Builtin.zeroCells zeroE.toArray m).toList 0 w (fun j hj => by rw [hl] at hj; simpa using hc j hj) (fun j hj => by rw [hl] at hj; exact hf j hj) h1
  simp only [Nat.add_zero] at hst
  obtain ⟨m, rfl⟩ : ∃ k, m = k + 1 := ⟨m - 1, by omega⟩
  have hu := run_underlying (P := Tryz.prog) Tryz.underlying151 (w := w)
  simp [Builtin.clear_, hu, zeroV w, Value.cells, hst]

/-- What DeleteFunc leaves. -/
def DelEnd (B : Nat) (w0 : World) (v : Value) (es : List EV) (e : Ending) (w' : World) : Prop := ∃ v', e = .returned v' ∧ RowE B w' v' es ∧ (v' = v ∨ v'.ownBlock = v.ownBlock) ∧ w0.grownBy w' v.ownBlock
/-- What its loop carries: the row holds d; the first i are the ones kept out of the first j. -/
def DelInv (B g cap : Nat) (p : EV → Bool) (l : List EV) (w0 : World) (i j : Nat) (wr : World) : Prop :=
  ∃ d : List EV, RowE B wr (.slice (some ⟨g, 0, none⟩) l.length cap) d ∧ d.length = l.length ∧ i < j ∧ j ≤ l.length ∧ d.take i = (l.take j).filter (fun x => !p x) ∧ (∀ t, j ≤ t → d[t]? = l[t]?) ∧ w0.grownBy wr (some g)

theorem idx_none {l : List EV} {p : EV → Bool} (h : l.findIdx? p = none) : idxOf l p = -1 ∧ l.filter (fun x => !p x) = l := by
  refine ⟨by unfold idxOf; rw [h], ?_⟩
  rw [List.findIdx?_eq_none_iff] at h
  exact List.filter_eq_self.2 fun x hx => by simp [h x hx]
theorem idx_some {l : List EV} {p : EV → Bool} {k : Nat} (h : l.findIdx? p = some k) : idxOf l p = k ∧ k < l.length ∧ l.take k = (l.take (k + 1)).filter (fun x => !p x) := by
  refine ⟨by unfold idxOf; rw [h], ?_⟩
  rw [List.findIdx?_eq_some_iff_getElem] at h
  obtain ⟨hk, hp, hno⟩ := h
  refine ⟨hk, ?_⟩
  rw [List.take_add_one, List.getElem?_eq_getElem hk, List.filter_append]
  have h1 : (l.take k).filter (fun x => !p x) = l.take k := List.filter_eq_self.2 fun x hx => by
    obtain ⟨j, hj⟩ := List.mem_iff_getElem?.1 hx
    rw [List.getElem?_take] at hj
    split at hj
    · rename_i hjk
      obtain ⟨_, rfl⟩ := List.getElem?_eq_some_iff.1 hj
      simpa using hno j hjk
    · cases hj
  rw [h1]
  simp [hp]

theorem box_cells {wr w2 : World} {cs : Array Value} {t : TypeId} (hb : Below (wr.alloc (.cells cs t)).heap.size (wr.alloc (.cells cs t)) w2) (c : Nat) : w2.cell? ⟨wr.heap.size, c, none⟩ = cs[c]? := by
  rw [cell_of_row w2 _ c _ _ _ ((hb.block _ (by simp)).trans (heap_alloc_new _ _))]
theorem take_filter {l : List EV} {p : EV → Bool} {j : Nat} {x : EV} (hx : l[j]? = some x) : (l.take (j + 1)).filter (fun x => !p x) = (l.take j).filter (fun x => !p x) ++ (if p x then [] else [x]) := by
  rw [List.take_add_one, hx, List.filter_append]
  cases hp : p x <;> simp [hp]
theorem del_step_hit {B g cap : Nat} {p : EV → Bool} {l d : List EV} {w0 wr : World} {i j : Nat} {x : EV} (hd : RowE B wr (.slice (some ⟨g, 0, none⟩) l.length cap) d) (hdl : d.length = l.length) (hij : i < j) (hlt : j < l.length)
    (htk : d.take i = (l.take j).filter (fun x => !p x)) (hrest : ∀ t, j ≤ t → d[t]? = l[t]?) (hdx : d[j]? = some x) (hp : p x = true) (hgr : w0.grownBy wr (some g)) (o : Obj) (w2 : World) (hb : Below (wr.alloc o).heap.size (wr.alloc o) w2) :
    DelInv B g cap p l w0 i (j + 1) w2 := by
  refine ⟨d, RowE.later (World.ownsRow.alloc hd _) hb, hdl, by omega, by omega, ?_, fun t ht => hrest t (by omega), (hgr.trans (World.grownBy_alloc wr o _)).trans (grown_of_below hb)⟩
  rw [take_filter ((hrest j (Nat.le_refl _)).symm.trans hdx), hp, htk]
  simp

theorem del_step_keep {B g cap : Nat} {p : EV → Bool} {l d : List EV} {w0 wr : World} {i j : Nat} {x : EV} (hd : RowE B wr (.slice (some ⟨g, 0, none⟩) l.length cap) d) (hdl : d.length = l.length) (hij : i < j) (hlt : j < l.length)
    (htk : d.take i = (l.take j).filter (fun x => !p x)) (hrest : ∀ t, j ≤ t → d[t]? = l[t]?) (hdx : d[j]? = some x) (hp : p x = false) (hgr : w0.grownBy wr (some g)) (o : Obj) (w2 : World) (hb : Below (wr.alloc o).heap.size (wr.alloc o) w2) :
    DelInv B g cap p l w0 (i + 1) (j + 1) (w2.setCells g (i * 9) (entV x)) := by
  have hr := RowE.set (RowE.later (World.ownsRow.alloc hd _) hb) (i := i) (by omega) x
  refine ⟨d.set i x, hr, by rw [List.length_set]; exact hdl, by omega, by omega, ?_, fun t ht => ?_, ((hgr.trans (World.grownBy_alloc wr o _)).trans (grown_of_below hb)).trans (grown_setCells g _ _ _)⟩
  · rw [take_filter ((hrest j (Nat.le_refl _)).symm.trans hdx), hp, ← htk, List.take_add_one, List.getElem?_set, if_pos rfl, if_pos (by omega), List.take_set_of_le (Nat.le_refl _)]
    rfl
  · rw [List.getElem?_set, if_neg (by omega)]
    exact hrest t (by omega)

set_option maxHeartbeats 3200000 in
set_option maxRecDepth 100000 in
theorem deleteFunc_any (B F : Nat) (cap : Array Value) (p : EV → Bool) (v : Value) (l : List EV) (w : World) (enters : ∀ args w, (callFunc F args).run Tryz.prog w = .ok (.enter F args) w)
    (ht : Tests F cap p w v.ownBlock) (h : RowE B w v l) :
    Calls Tryz.prog 119 #[v, .func (.func F) #[] cap] w (DelEnd B w v (l.filter fun x => !p x)) := by
  obtain ⟨a, cp, rfl, hcap, hm, hg⟩ := h.val
  unfold maxLen at hm
  have HI := Lib.hid (index_any B F cap p _ l w enters ht h)
  have Ht := Lib.hid ht
  clear ht
  cases hf : l.findIdx? p with
  | none =>
    obtain ⟨hi, hfl⟩ := idx_none hf
    rw [hi] at HI
    clear hf
    rw [hfl]
    clear hi hfl
    go_enter Tryz.func119, Tryz.ntmps119
    go_wp2_with fail
    refine HI.out.mono ?_
    rintro e w1 ⟨rfl, hB1⟩
    have h1 := h.later hB1
    go_wp2
    go_ret
    exact ⟨_, rfl, h1, .inl rfl, grown_of_below hB1⟩
  | some i0 =>
    obtain ⟨hi, hil, htake⟩ := idx_some hf
    obtain ⟨g, rfl, hBg, hgs⟩ := hg (by intro e; rw [e] at hil; simp at hil)
    rw [hi] at HI
    have Htk := Lib.hid htake
    have hi0m : i0 < cp := by omega
    have hi01 : ((i0 : Int) == -1) = false := by rw [beq_eq_false_iff_ne]; omega
    clear hf hi htake hg
    go_enter Tryz.func119, Tryz.ntmps119
    go_wp2_with fail
    refine HI.out.mono ?_
    rintro e w1 ⟨rfl, hB1⟩
    have h1 := h.later hB1
    have hinv0 : DelInv B g cp p l w i0 (i0 + 1) w1 := ⟨l, h1, rfl, by omega, by omega, Htk.out, fun _ _ => rfl, grown_of_below hB1⟩
    clear h1 hB1 HI
    go_wp2
    go_loopw [5, 6] (fun s5 s6 wr => ∃ i j : Nat, s5 = .int .i64 i ∧ s6 = .int .i64 j ∧ i < j ∧ j ≤ l.length ∧ DelInv B g cp p l w i j wr) (fun _ s6 _ => l.length - (intOf s6).toNat)
    case atStart => exact ⟨i0, i0 + 1, rfl, by go_num, by omega, by omega, hinv0⟩
    case round =>
      clear hinv0
      obtain ⟨i, j, rfl, rfl, hij, hjl, d, hd, hdl, _, _, htk, hrest, hgr⟩ := hrel
      by_cases hlt : j < l.length
      · obtain ⟨x, hx⟩ : ∃ x, l[j]? = some x := ⟨l[j], List.getElem?_eq_getElem hlt⟩
        have hdx : d[j]? = some x := (hrest j (Nat.le_refl _)).trans hx
        have c0 : wr.cell? ⟨g, j * 9, none⟩ = _ := hd.cells hdx (i := 0) rfl
        have c1 := hd.cells hdx (i := 1) rfl
        have c2 := hd.cells hdx (i := 2) rfl
        have c3 := hd.cells hdx (i := 3) rfl
        have c4 := hd.cells hdx (i := 4) rfl
        have c5 := hd.cells hdx (i := 5) rfl
        have c6 := hd.cells hdx (i := 6) rfl
        have c7 := hd.cells hdx (i := 7) rfl
        have c8 := hd.cells hdx (i := 8) rfl
        have Hd := Lib.hid hd
        have Hdx := Lib.hid hdx
        have Htk2 := Lib.hid htk
        have Hrest := Lib.hid hrest
        have hlt' : (j : Int) < l.length := by omega
        clear hd hdx htk hrest hx h
        have hcall := fun o => Lib.hid (Ht.out (wr.alloc o) x (hgr.trans (World.grownBy_alloc wr o _)))
        cases hp : p x with
        | true =>
          rw [hp] at hcall
          have hstep := del_step_hit Hd.out hdl hij hlt Htk2.out Hrest.out (Hdx.out) hp hgr
          go_wp2_with (go_at_fn F; refine (hcall _).out.mono ?_; rintro e w2 ⟨rfl, hb2⟩; have hinv := hstep _ w2 hb2)
          exact ⟨⟨i, j + 1, rfl, by go_num, by omega, by omega, hinv⟩, by simp [intOf]; omega⟩
        | false =>
          rw [hp] at hcall
          obtain ⟨y, hy⟩ : ∃ y, d[i]? = some y := ⟨d[i]'(by omega), List.getElem?_eq_getElem _⟩
          have Hy := Lib.hid hy
          have hi' : (i : Int) < l.length := by omega
          have hi0 : (0 : Int) ≤ i := by omega
          clear hy
          go_wp2_with (
            go_at_fn F
            refine (hcall _).out.mono ?_
            rintro e w2 ⟨rfl, hb2⟩
            have Hd2 := Lib.hid (show RowE B w2 (.slice (some ⟨g, 0, none⟩) l.length cp) d from RowE.later (World.ownsRow.alloc Hd.out _) hb2)
            have a0 : w2.cell? ⟨g, i * 9, none⟩ = _ := Hd2.out.cells Hy.out (i := 0) rfl
            have a1 := Hd2.out.cells Hy.out (i := 1) rfl
            have a2 := Hd2.out.cells Hy.out (i := 2) rfl
            have a3 := Hd2.out.cells Hy.out (i := 3) rfl
            have a4 := Hd2.out.cells Hy.out (i := 4) rfl
            have a5 := Hd2.out.cells Hy.out (i := 5) rfl
            have a6 := Hd2.out.cells Hy.out (i := 6) rfl
            have a7 := Hd2.out.cells Hy.out (i := 7) rfl
            have a8 := Hd2.out.cells Hy.out (i := 8) rfl
            have fz := Hd2.out.frozen
            have bx := box_cells hb2
            clear c0 c1 c2 c3 c4 c5 c6 c7 c8)
          have hinv := del_step_keep Hd.out hdl hij hlt Htk2.out Hrest.out Hdx.out hp hgr _ w2 hb2
          exact ⟨⟨i + 1, j + 1, by go_num, by go_num, by omega, by omega, hinv⟩, by simp [intOf]; omega⟩
      · have hje : j = l.length := by omega
        subst hje
        rw [List.take_length] at htk
        have hcl := fun ty => run_clear_ents wr ty g (i * 9) (l.length - i) (cp - i) (by omega) (fun t ht => by
            obtain ⟨y, hy⟩ : ∃ y, d[(i * 9 + t) / 9]? = some y := ⟨d[(i * 9 + t) / 9]'(by omega), List.getElem?_eq_getElem _⟩
            obtain ⟨u, hu⟩ : ∃ u, (entV y)[(i * 9 + t) % 9]? = some u := ⟨(entV y)[(i * 9 + t) % 9]'(by rw [entV_len]; omega), List.getElem?_eq_getElem _⟩
            have := hd.cells hy hu
            rw [show (i * 9 + t) / 9 * 9 + (i * 9 + t) % 9 = i * 9 + t by omega] at this
            rw [this]; rfl) (fun t _ => hd.frozen _)
        have hcut := hd.cut (i := i) (by omega) (Builtin.zeroCells zeroE.toArray (l.length - i)).toList
        rw [htk] at hcut
        have hgr2 := hgr.trans (grown_setCells g (Builtin.zeroCells zeroE.toArray (l.length - i)).toList (i * 9) wr)
        have hil2 : i ≤ l.length := by omega
        have hicp : i ≤ cp := by omega
        have hicp' : i < cp := by omega
        clear htk hrest hd h
        go_wp2
        go_ret
        exact ⟨_, rfl, hcut, .inr rfl, hgr2⟩
end Go.Proofs.YtajllcbjgndcpaaGreatDoor
