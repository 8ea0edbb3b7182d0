/- WALKS: labelFact, LabelShort. -/
import Derived.Test.YtajllcbjgndcpaaDoorW11
namespace Go.Proofs.YtajllcbjgndcpaaDoor
open Go.RowKit Go.Maps

theorem pack_any (v : Value) (l : List Lb.Bs) (w : World) (henv : Env w) (h : Strs w v l) :
    Calls Tryd.prog 10 #[v] w fun e w' => e = .returned (.tuple #[.string ⟨(packS l).toArray⟩, .int .i64 (Lb.packE l)]) ∧ Below w.heap.size w w' := by
  by_cases hl : l.length ≤ 256
  · exact pack_run v l w henv h hl
  · refine (pack_many v l w h (by omega)).mono fun e w' ⟨he, hw⟩ => ⟨?_, hw ▸ Below.refl _ _⟩
    rw [he]
    have : Lb.packE l = 2 := by unfold Lb.packE; rw [if_pos (by omega)]
    exact pack_fin this.symm (packS_bad (by rw [this]; decide))

theorem strs_new (w : World) (l : List Lb.Bs) (cs : Array Value) (hcs : cs.toList = l.map fun x => Value.string ⟨x.toArray⟩) (hl : l.length ≤ 100) :
    Strs (w.alloc (.cells cs 9)) (.slice (some ⟨w.heap.size, 0, none⟩) l.length l.length) l := by
  refine ⟨_, _, rfl, Nat.le_refl _, by unfold maxLen; omega, fun _ => ⟨w.heap.size, 0, rfl, by simp, fun j x hx => ?_⟩⟩
  rw [Nat.zero_add, cell_of_row _ _ j _ _ _ (heap_alloc_new w _), ← Array.getElem?_toList, hcs]
  simp [hx]

def factL : List Lb.Bs := [[97, 46, 98, 46], [99, 46, 98, 46]]
theorem factE : Lb.packE factL = 0 := by decide +kernel
theorem factS : packS factL = [1, 97, 1, 98, 0, 1, 99, 192, 2] := by decide +kernel

set_option maxHeartbeats 800000 in
theorem labelFact_any (w : World) (henv : Env w) :
    Calls Tryd.prog 11 #[] w fun e w' => e = .returned (.bool true) ∧ Below w.heap.size w w' := by
  have hS := strs_new w factL #[.string ⟨#[97, 46, 98, 46]⟩, .string ⟨#[99, 46, 98, 46]⟩] rfl (by decide)
  have hB := (Below.refl w.heap.size w).alloc (Nat.le_refl _) (.cells #[.string ⟨#[97, 46, 98, 46]⟩, .string ⟨#[99, 46, 98, 46]⟩] 9)
  have hP := pack_any _ factL _ (henv.later hB) hS
  rw [factE, factS] at hP
  have HP := Lib.hid hP
  clear hP
  go_enter Tryd.func11, Tryd.ntmps11
  go_wp2_with fail
  refine HP.out.mono ?_
  rintro e w2 ⟨rfl, hB2⟩
  go_wp2
  go_ret
  exact ⟨rfl, hB.trans (hB2.mono hB.size)⟩

theorem Strs.take {w : World} {a : Option Addr} {cap : Nat} {l : List Lb.Bs} (h : Strs w (.slice a l.length cap) l) {k : Nat} (hk : k ≤ l.length) : Strs w (.slice a k cap) (l.take k) := by
  obtain ⟨a', cap', h1, h2, h3, h4⟩ := h
  injection h1 with e1 _ e3
  subst e1 e3
  refine ⟨a, cap, by rw [List.length_take, Nat.min_eq_left hk], by rw [List.length_take]; omega, h3, fun hn => ?_⟩
  have hne : l ≠ [] := by rintro rfl; simp at hn
  obtain ⟨b, o, h5, h6, h7⟩ := h4 hne
  refine ⟨b, o, h5, h6, fun j x hx => ?_⟩
  rw [List.getElem?_take] at hx
  split at hx
  · exact h7 j x hx
  · cases hx

/-- The sum of LabelShort's loop. -/
def lensTo (l : List Lb.Bs) : Nat := (l.map fun x => (packS [x]).length).sum
theorem lensTo_snoc {l : List Lb.Bs} {k : Nat} {x : Lb.Bs} (hx : l[k]? = some x) : lensTo (l.take (k + 1)) = lensTo (l.take k) + (packS [x]).length := by
  rw [take_snoc' hx]; simp [lensTo]
theorem packS_len (l : List Lb.Bs) : (packS l).length ≤ 4096 := by
  unfold packS
  split
  · rename_i h
    unfold Lb.packE at h
    split at h
    · exact absurd h (by decide)
    · split at h
      · rename_i h2; exact absurd h h2
      · split at h
        · exact absurd h (by decide)
        · omega
  · simp
theorem lensTo_le (l : List Lb.Bs) : lensTo l ≤ 4096 * l.length := by
  unfold lensTo
  induction l with
  | nil => simp
  | cons x r ih => have := packS_len [x]; simp at ih ⊢; omega
theorem short_fin {l : List Lb.Bs} (h : Lb.packE l = 0) : (packS l).length ≤ lensTo l := by
  have hfe : Lb.firstErr l = 0 := by
    unfold Lb.packE at h
    split at h
    · exact absurd h (by decide)
    · split at h
      · rename_i h2; exact absurd h h2
      · rename_i h2; exact Decidable.of_not_not h2
  have hf := Lb.firstErr_ok.1 hfe
  have h1 := Lb.short_law l
  have h2 : packS l = Lb.packB l := by unfold packS; rw [if_pos h]
  have h3 : lensTo l = (l.map fun n => (Lb.packB [n]).length).sum := by
    unfold lensTo
    refine congrArg List.sum (List.map_congr_left fun x hx => ?_)
    have hx1 : Lb.firstErr [x] = 0 := Lb.firstErr_ok.2 (by intro n hn; simp at hn; subst hn; exact hf n hx)
    have hx2 := Lb.packB_len [x] (Lb.firstErr_ok.1 hx1)
    have hx3 : Lb.packE [x] = 0 := by
      unfold Lb.packE
      rw [if_neg (by simp), if_neg (by rw [hx1]; simp), if_neg (by simp at hx2; omega)]
    unfold packS
    rw [if_pos hx3]
  rw [h2, h3]
  exact h1

set_option maxHeartbeats 1600000 in
set_option maxRecDepth 100000 in
theorem labelShort_any (v : Value) (l0 : List Lb.Bs) (w : World) (henv : Env w) (h : Strs w v l0) :
    Calls Tryd.prog 3 #[v] w fun e w' => e = .returned (.bool true) ∧ Below w.heap.size w w' := by
  obtain ⟨a, cap, rfl, hcap, hm, hcell⟩ := id h
  clear hcell
  unfold maxLen at hm
  obtain ⟨k0, hk0⟩ : ∃ k0, min l0.length 30 = k0 := ⟨_, rfl⟩
  have hS := h.take (show k0 ≤ l0.length by omega)
  have hk30 : k0 ≤ 30 := by omega
  have hlen : (l0.take k0).length = k0 := by rw [List.length_take]; omega
  have hmin : min (l0.length : Int) 30 = (k0 : Int) := by omega
  have hkc : k0 ≤ cap := by omega
  generalize l0.take k0 = l at *
  have Hlen := Lib.hid hlen
  clear hlen h hk0 hcap
  have HS := Lib.hid hS
  clear hS
  go_enter Tryd.func3, Tryd.ntmps3
  by_cases hE : Lb.packE l = 0
  · have hPk := pack_any (.slice a k0 cap) l w henv HS.out
    have hfin := short_fin hE
    rw [hE] at hPk
    have HP := Lib.hid hPk
    have Hfin := Lib.hid hfin
    have hsl := packS_len l
    clear hPk hfin hE
    go_wp2_with fail
    refine HP.out.mono ?_
    rintro e w1 ⟨rfl, hB1⟩
    go_wp2_with fail
    go_loopw [25, 5] (fun i n wr => ∃ k : Nat, k ≤ k0 ∧ i = .int .i64 k ∧ n = .int .i64 (lensTo (l.take k) : Nat) ∧ Below w.heap.size w wr) (fun i _ _ => k0 - (intOf i).toNat)
    case atStart => exact ⟨0, Nat.zero_le _, rfl, rfl, hB1⟩
    case round =>
      obtain ⟨k, hk, rfl, rfl, hB⟩ := hrel
      have henv2 := henv.later hB
      have hle := lensTo_le (l.take k)
      have hle2 : lensTo (l.take k) ≤ 4096 * 30 := by
        have : (l.take k).length ≤ 30 := by rw [List.length_take]; omega
        omega
      by_cases hlt : k < k0
      · have hlk : k < l.length := by rw [Hlen.out]; exact hlt
        obtain ⟨x, hx⟩ : ∃ x, l[k]? = some x := ⟨l[k], List.getElem?_eq_getElem hlk⟩
        have hSr := HS.out.later hB
        have hL := Hlen.out
        rw [← hL] at hSr
        obtain ⟨b, o, rfl, hb, hc⟩ := strs_cells hSr (by intro e; rw [e] at hlk; simp at hlk)
        have hcx := hc k x hx
        have hSx := strs_new wr [x] #[.string ⟨x.toArray⟩] rfl (by simp)
        have hBx := (Below.refl wr.heap.size wr).alloc (Nat.le_refl _) (.cells #[.string ⟨x.toArray⟩] 9)
        have HPx := Lib.hid (pack_any _ [x] _ (henv2.later hBx) hSx)
        have hsx := packS_len [x]
        have hsn := lensTo_snoc hx
        have Hsn := Lib.hid hsn
        clear hsn hx hc hSr hL hSx hlk
        go_wp2_with fail
        refine HPx.out.mono ?_
        rintro e w2 ⟨rfl, hB2⟩
        go_wp2
        exact ⟨⟨k + 1, by omega, by go_num, by rw [Hsn.out]; go_num, hB.trans ((hBx.trans (hB2.mono hBx.size)).mono hB.size)⟩, by simp [intOf]; omega⟩
      · have hke : l.take k = l := List.take_of_length_le (by rw [Hlen.out]; omega)
        rw [hke] at hle2 ⊢
        have hf := Hfin.out
        clear hke hle
        go_wp2_with fail
        refine (labelFact_any _ henv2).mono ?_
        rintro e w2 ⟨rfl, hB2⟩
        go_wp2
        go_ret
        exact ⟨rfl, hB.trans (hB2.mono hB.size)⟩
  · have hPk := pack_any (.slice a k0 cap) l w henv HS.out
    have hb : (Lb.packE l == 0) = false := beq_eq_false_iff_ne.2 hE
    clear hE
    generalize Lb.packE l = c at *
    have HP := Lib.hid hPk
    clear hPk
    go_wp2_with fail
    refine HP.out.mono ?_
    rintro e w1 ⟨rfl, hB1⟩
    go_wp2_with fail
    refine (labelFact_any _ (henv.later hB1)).mono ?_
    rintro e w2 ⟨rfl, hB2⟩
    go_wp2
    go_ret
    exact ⟨rfl, hB1.trans (hB2.mono hB1.size)⟩
end Go.Proofs.YtajllcbjgndcpaaDoor
