/- WALKS: Check. -/
import Derived.Test.YtajllcbjgndcpaaGreatDoorW5
namespace Go.Proofs.YtajllcbjgndcpaaGreatDoor
open Go.RowKit

theorem labsOk_snoc (l : List Lb.Bs) (x : Lb.Bs) : Lb.labsOk (l ++ [x]) = (Lb.labsOk l && (Lb.isLab x && !(x == [42] && decide (0 < l.length)))) := by
  cases l with
  | nil => simp [Lb.labsOk]
  | cons y r =>
    simp [Lb.labsOk, List.all_append, Bool.and_assoc]
theorem labsOk_take {l : List Lb.Bs} {k : Nat} {x : Lb.Bs} (h : l[k]? = some x) : Lb.labsOk (l.take (k + 1)) = (Lb.labsOk (l.take k) && (Lb.isLab x && !(x == [42] && decide (0 < k)))) := by
  have hk : k < l.length := (List.getElem?_eq_some_iff.1 h).1
  rw [List.take_add_one, h]
  simp only [Option.toList]
  rw [labsOk_snoc, List.length_take, Nat.min_eq_left (by omega)]
theorem labsOk_pre {l : List Lb.Bs} {k : Nat} (h : Lb.labsOk (l.take k) = false) : Lb.labsOk l = false := by
  cases hl : Lb.labsOk l with
  | false => rfl
  | true =>
    exfalso
    have : ∀ (l : List Lb.Bs) k, Lb.labsOk l = true → Lb.labsOk (l.take k) = true := by
      intro l k hl
      cases l with
      | nil => simpa using hl
      | cons y r =>
        cases k with
        | zero => rfl
        | succ k =>
          simp only [List.take_succ_cons, Lb.labsOk, Bool.and_eq_true, List.all_eq_true] at hl ⊢
          exact ⟨hl.1, fun z hz => hl.2 z (List.mem_of_mem_take hz)⟩
    rw [this l k hl] at h; contradiction

theorem strs_cells {w : World} {a : Option Addr} {cap : Nat} {l : List Lb.Bs} (h : Strs w (.slice a l.length cap) l) (hn : l ≠ []) :
    ∃ b o, a = some ⟨b, o, none⟩ ∧ b < w.heap.size ∧ ∀ j x, l[j]? = some x → w.cell? ⟨b, o + j, none⟩ = some (.string ⟨x.toArray⟩) := by
  obtain ⟨a', cap', h1, _, _, h2⟩ := h
  obtain ⟨b, o, h3, h4, h5⟩ := h2 hn
  injection h1 with h6 _ _
  exact ⟨b, o, h6.trans h3, h4, h5⟩

set_option maxHeartbeats 800000 in
theorem check_long (s : ByteArray) (w : World) (h : 80 < s.size) :
    Calls Tryz.prog 15 #[.string s] w fun e w' => e = .returned (.int .i64 2) ∧ w' = w := by
  go_enter Tryz.func15, Tryz.ntmps15
  go_wp2
  go_ret
  exact ⟨rfl, rfl⟩
set_option maxHeartbeats 800000 in
theorem check_dot (w : World) :
    Calls Tryz.prog 15 #[.string ⟨#[46]⟩] w fun e w' => e = .returned (.int .i64 0) ∧ w' = w := by
  go_enter Tryz.func15, Tryz.ntmps15
  go_wp2
  go_ret
  exact ⟨rfl, rfl⟩
set_option maxHeartbeats 800000 in
theorem check_open (s : ByteArray) (w : World) (h : s.size ≤ 80) (hd : (s.toList == [46]) = false) (hs : Lib.hasSuffix s.data.toList [46] = false) :
    Calls Tryz.prog 15 #[.string s] w fun e w' => e = .returned (.int .i64 3) ∧ w' = w := by
  go_enter Tryz.func15, Tryz.ntmps15
  go_wp2_with (go_at_call 40; refine (Tryz.strings_HasSuffix _ _ _ (by omega)).mono ?_; rintro e w1 ⟨rfl, rfl⟩)
  go_ret
  exact ⟨rfl, rfl⟩

theorem cut_len : ∀ (s : List UInt8) (x : Lb.Bs), x ∈ Lb.cut s → x.length ≤ s.length
  | [], x, h => by simp [Lb.cut] at h; subst h; simp
  | c :: s, x, h => by
    have ih := cut_len s
    unfold Lb.cut at h
    split at h
    · rcases List.mem_cons.1 h with rfl | h
      · simp
      · have := ih x h; simp; omega
    · cases hcs : Lb.cut s with
      | nil => exact absurd hcs (Lb.cut_ne s)
      | cons y r =>
        rw [hcs] at h ih
        rcases List.mem_cons.1 h with rfl | h
        · have := ih y (by simp); simp; omega
        · have := ih x (by simp [h]); simp; omega
theorem split_len (s : List UInt8) (x : Lb.Bs) (h : x ∈ Lb.split s) : x.length ≤ s.length := by
  unfold Lb.split at h
  split at h
  · simp at h
  · exact Nat.le_trans (cut_len _ x h) (dropDot_len s)

/-- What Check answers where the name ends in a dot. -/
def labsCode (l : List Lb.Bs) : Int := if Lb.labsOk l = false then 3 else if l.length > 8 then 2 else 0
theorem labs_bad {l : List Lb.Bs} {k : Nat} {x : Lb.Bs} (hx : l[k]? = some x) (h : ¬ Lb.isLab x = true ∨ x = [42] ∧ 0 < k) : 3 = labsCode l := by
  have : Lb.labsOk (l.take (k + 1)) = false := by
    rw [labsOk_take hx]
    rcases h with h | ⟨h, h2⟩
    · have : Lb.isLab x = false := by simpa using h
      rw [this]; simp
    · rw [h]; simp [h2]
  unfold labsCode
  rw [if_pos (labsOk_pre this)]
theorem labs_next {l : List Lb.Bs} {k : Nat} {x : Lb.Bs} (hx : l[k]? = some x) (hl : Lb.labsOk (l.take k) = true) (h1 : Lb.isLab x = true) (h : ¬ x = [42] ∨ ¬ 0 < k) : Lb.labsOk (l.take (k + 1)) = true := by
  rw [labsOk_take hx, hl, h1]
  rcases h with h | h
  · simp [h]
  · simp [show k = 0 by omega]
theorem labs_many {l : List Lb.Bs} (h : Lb.labsOk l = true) (h2 : 8 < l.length) : 2 = labsCode l := by unfold labsCode; rw [if_neg (by simp [h]), if_pos h2]
theorem labs_fit {l : List Lb.Bs} (h : Lb.labsOk l = true) (h2 : l.length ≤ 8) : 0 = labsCode l := by unfold labsCode; rw [if_neg (by simp [h]), if_neg (by omega)]

set_option maxHeartbeats 1600000 in
theorem check_labs (s : ByteArray) (w : World) (henv : Env w) (h : s.size ≤ 80) (hd : (s.toList == [46]) = false) (hs : Lib.hasSuffix s.data.toList [46] = true) :
    Calls Tryz.prog 15 #[.string s] w fun e w' => e = .returned (.int .i64 (labsCode (Lb.split s.data.toList))) ∧ Below w.heap.size w w' := by
  go_enter Tryz.func15, Tryz.ntmps15
  go_wp2_with (go_at_call 40; refine (Tryz.strings_HasSuffix _ _ _ (by omega)).mono ?_; rintro e w1 ⟨rfl, rfl⟩)
  refine (split_any _ _ henv (by omega)).mono ?_
  rintro e w2 ⟨v, rfl, hO, hB⟩
  have hS := hO.strs
  have hlens := split_len s.data.toList
  rw [size_len] at hlens
  have Hlens := Lib.hid hlens
  clear hO hlens
  generalize hsp : Lb.split s.data.toList = l at *
  have Hsp := Lib.hid hsp
  clear hsp
  obtain ⟨a, cap, rfl, hcap, hm, hcell⟩ := id hS
  clear hcell
  unfold maxLen at hm
  go_wp2_with fail
  go_loopw [18] (fun i wr => ∃ k : Nat, k ≤ l.length ∧ i = .int .i64 k ∧ Lb.labsOk (l.take k) = true ∧ Strs wr (.slice a l.length cap) l ∧ Below w1.heap.size w1 wr) (fun i _ => l.length - (intOf i).toNat)
  case atStart => exact ⟨0, Nat.zero_le _, rfl, rfl, hS, hB⟩
  case round =>
    obtain ⟨k, hk, rfl, hl, hSr, hBr⟩ := hrel
    have Hl := Lib.hid hl
    clear hl hS hB
    by_cases hlt : k < l.length
    · obtain ⟨b, o, rfl, hb, hc⟩ := strs_cells hSr (by intro e; rw [e] at hlt; simp at hlt)
      obtain ⟨x, hx⟩ : ∃ x, l[k]? = some x := ⟨l[k], List.getElem?_eq_getElem hlt⟩
      have hcx := hc k x hx
      have hxl : (⟨x.toArray⟩ : ByteArray).size ≤ 9223372036854775807 := by
        have := Hlens.out x (List.mem_of_getElem? hx)
        rw [size_of]; omega
      have Hx := Lib.hid hx
      clear hx hc
      go_wp2_with (go_at_call 42; refine (isLabel_any _ _ hxl).mono ?_; rintro e w3 ⟨rfl, hB3⟩)
      · go_ret
        exact ⟨by rw [Hsp.out]; exact ret_int (labs_bad Hx.out (.inr ⟨by assumption, by assumption⟩)), hBr.trans (hB3.mono hBr.size)⟩
      · exact ⟨⟨k + 1, by omega, by go_num, labs_next Hx.out Hl.out (by assumption) (.inr (by assumption)), hSr.later hB3, hBr.trans (hB3.mono hBr.size)⟩, by simp [intOf]; omega⟩
      · exact ⟨⟨k + 1, by omega, by go_num, labs_next Hx.out Hl.out (by assumption) (.inl (by assumption)), hSr.later hB3, hBr.trans (hB3.mono hBr.size)⟩, by simp [intOf]; omega⟩
      · go_ret
        exact ⟨by rw [Hsp.out]; exact ret_int (labs_bad Hx.out (.inl (by assumption))), hBr.trans (hB3.mono hBr.size)⟩
    · have hke : k = l.length := by omega
      have hall : Lb.labsOk l = true := by have := Hl.out; rw [hke, List.take_length] at this; exact this
      have Hall := Lib.hid hall
      clear hke hall
      go_wp2
      · go_ret
        exact ⟨by rw [Hsp.out]; exact ret_int (labs_many Hall.out (by omega)), hBr⟩
      · go_ret
        exact ⟨by rw [Hsp.out]; exact ret_int (labs_fit Hall.out (by omega)), hBr⟩

/-- Check, whatever the name. -/
theorem check_any (s : ByteArray) (w : World) (henv : Env w) :
    Calls Tryz.prog 15 #[.string s] w fun e w' => e = .returned (.int .i64 (Lb.check s.data.toList)) ∧ Below w.heap.size w w' := by
  unfold Lb.check
  rw [size_len]
  by_cases h1 : s.size > 80
  · rw [if_pos h1]
    exact (check_long s w h1).mono fun e w' ⟨he, hw⟩ => ⟨he, hw ▸ Below.refl _ _⟩
  · rw [if_neg h1]
    by_cases h2 : s.data.toList = [46]
    · rw [if_pos h2]
      have : s = ⟨#[46]⟩ := by rw [← bs_back s, h2]
      subst this
      exact (check_dot w).mono fun e w' ⟨he, hw⟩ => ⟨he, hw ▸ Below.refl _ _⟩
    · rw [if_neg h2]
      have h2' : (s.toList == [46]) = false := by rw [ByteArray.toList_eq]; simpa using h2
      by_cases h3 : s.data.toList.getLast? = some 46
      · rw [if_neg (by simp [h3])]
        exact check_labs s w henv (by omega) h2' (by rw [hasDot]; exact decide_eq_true h3)
      · rw [if_pos h3]
        exact (check_open s w (by omega) h2' (by rw [hasDot]; exact decide_eq_false h3)).mono fun e w' ⟨he, hw⟩ => ⟨he, hw ▸ Below.refl _ _⟩
end Go.Proofs.YtajllcbjgndcpaaGreatDoor
