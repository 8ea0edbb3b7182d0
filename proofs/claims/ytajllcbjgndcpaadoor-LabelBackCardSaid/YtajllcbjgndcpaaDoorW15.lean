/- WALKS: Unpack (of what Pack made), SameTexts, LabelBack. -/
import Derived.Test.YtajllcbjgndcpaaDoorW14
import Derived.BigQuiet
namespace Go.Proofs.YtajllcbjgndcpaaDoor
open Go.RowKit Go.Maps

theorem take_bound {s : Lb.Bs} : ∀ (f i : Nat) (l : List Lb.Bs) (e : Int) (r : List Lb.Bs × Int), Lb.take s f i l e = some r →
    (e < 0 → (i : Int) + 1 ≤ r.2) ∧ (0 ≤ e → e ≤ r.2) ∧ r.2 ≤ max e s.length ∧ (r.1.flatMap (· ++ [46])).length ≤ (l.flatMap (· ++ [46])).length + 64 * f := by
  intro f
  induction f with
  | zero => intro i l e r h; simp [Lb.take] at h
  | succ f ih =>
    intro i l e r h
    obtain ⟨g, hg, hi, hc⟩ := take_step h
    obtain rfl : f = g := by omega
    rcases hc with ⟨_, rfl⟩ | ⟨h1, h2, h3, h4⟩ | ⟨h1, h2, h3, h4⟩
    · refine ⟨by intro; simp only; omega, by intro; simp only; omega, by simp only; omega, by simp only; omega⟩
    · obtain ⟨a, b, c, d⟩ := ih _ _ _ _ h4
      refine ⟨fun he => ?_, b, c, ?_⟩
      · have := a he; omega
      · rw [List.flatMap_append, List.length_append] at d
        simp only [List.flatMap_cons, List.flatMap_nil, List.append_nil, List.length_append, List.length_take, List.length_drop, List.length_singleton] at d
        omega
    · obtain ⟨a, b, c, d⟩ := ih _ _ _ _ h4
      refine ⟨fun he => ?_, fun he => ?_, ?_, by omega⟩
      · rw [if_pos he] at b; have := b (by omega); omega
      · rw [if_neg (by omega)] at b; exact b he
      · split at c <;> omega

theorem names_step {s : Lb.Bs} {f i : Nat} {out L : List Lb.Bs} (h : Lb.names s f i out = some L) : (s.length ≤ i ∧ out = L) ∨ (i < s.length ∧ ∃ g r, f = g + 1 ∧ Lb.take s 20 i [] (-1) = some r ∧ Lb.names s g r.2.toNat (out ++ [Lb.join r.1]) = some L) := by
  cases f with
  | zero =>
    unfold Lb.names at h
    split at h
    · cases h
    · injection h with h; exact .inl ⟨by omega, h⟩
  | succ g =>
    unfold Lb.names at h
    split at h
    · rename_i hi
      split at h
      · cases h
      · rename_i l e ht
        exact .inr ⟨hi, g, (l, e), rfl, ht, h⟩
    · injection h with h; exact .inl ⟨by omega, h⟩
theorem join_le {l : List Lb.Bs} {n : Nat} (h : (l.flatMap (· ++ [46])).length ≤ n) : (Lb.join l).length ≤ n + 1 := by
  unfold Lb.join
  split
  · simp
  · omega

/-- What the loop of Unpack carries. -/
def UnpackInv (s : Lb.Bs) (L : List Lb.Bs) (w0 : World) (i : Nat) (v : Value) (out : List Lb.Bs) (wr : World) : Prop :=
  (∃ f, Lb.names s f i out = some L) ∧ i ≤ 4096 ∧ out.length ≤ i ∧ RowS w0.heap.size wr v out ∧ Below w0.heap.size w0 wr
/-- What Unpack leaves. -/
def UnpackEnd (L : List Lb.Bs) (w0 : World) (en : Ending) (w' : World) : Prop :=
  ∃ v, en = .returned (.tuple #[v, .int .i64 0]) ∧ RowS w0.heap.size w' v L ∧ Below w0.heap.size w0 w'

set_option maxHeartbeats 1600000 in
set_option maxRecDepth 100000 in
theorem unpack_any (s : ByteArray) (L : List Lb.Bs) (w : World) (henv : Env w) (hs : s.data.toList = packS L) (hE : Lb.packE L = 0) (hn : Lb.names s.data.toList 40 0 [] = some L) :
    Calls Tryd.prog 21 #[.string s] w (UnpackEnd L w) := by
  have hlen : s.data.toList.length = s.size := size_len s
  have hsz : s.size ≤ 4096 := by rw [← hlen, hs]; exact packS_len _
  have Hs := Lib.hid hs
  have HE := Lib.hid hE
  clear hs hE
  go_enter Tryd.func21, Tryd.ntmps21
  go_wp2
  go_loopw [4, 5] (fun v p wr => ∃ (i : Nat) (out : List Lb.Bs), p = .int .i64 i ∧ UnpackInv s.data.toList L w i v out wr) (fun _ p _ => s.size - (intOf p).toNat)
  case atStart => exact ⟨0, [], rfl, ⟨40, hn⟩, by omega, Nat.le_refl _, World.ownsRow_nil _ _ _ _, Below.refl _ _⟩
  case round =>
    obtain ⟨i, out, rfl, hinv⟩ := hrel
    obtain ⟨⟨f, hnm⟩, hi, ho, hrow, hB⟩ := hinv
    clear hn
    rcases names_step hnm with ⟨h1, rfl⟩ | ⟨h1, g, r, _, ht, hnm2⟩
    · rw [hlen] at h1
      clear hnm
      have HP := Lib.hid (pack_any _ out wr (henv.later hB) hrow.strs)
      rw [HE.out, ← Hs.out] at HP
      go_wp2_with fail
      refine HP.out.mono ?_
      rintro e w1 ⟨rfl, hB1⟩
      have hB2 := hB.trans (hB1.mono hB.size)
      have hrow2 := hrow.later hB1
      clear hB hB1 hrow HP
      go_wp2
      go_ret2
      exact ⟨_, rfl, hrow2, hB2⟩
    · rw [hlen] at h1
      have Hn := Lib.hid hnm2
      obtain ⟨b1, _, b2, b3⟩ := take_bound _ _ _ _ _ ht
      have b1 := b1 (by omega)
      have b2' : r.2 ≤ 4096 := by rw [hlen] at b2; omega
      have hj := join_le b3
      simp only [List.flatMap_nil, List.length_nil] at hj
      have HT := Lib.hid (take_any s i r wr hsz hi ht)
      clear hnm ht hnm2 b3 b2
      obtain ⟨x, e⟩ := r
      simp only at b1 b2' hj
      have hneg : ¬ e < 0 := by omega
      obtain ⟨n, rfl⟩ : ∃ n : Nat, e = n := ⟨e.toNat, by omega⟩
      go_wp2_with fail
      refine HT.out.mono ?_
      rintro e w1 ⟨vl, rfl, hrow1, hB1⟩
      have hB2 := hB.trans (hB1.mono hB.size)
      have hrow2 := hrow.later hB1
      simp only
      go_wp2_with fail
      refine (join_any vl x w1 (RowS.strs hrow1) (by omega)).mono ?_
      rintro e w2 ⟨rfl, hB3⟩
      have hB4 := hB2.trans (hB3.mono hB2.size)
      have hrow4 := hrow2.later hB3
      clear hB hB1 hB2 hB3 hrow hrow2 hrow1 HT
      obtain ⟨i0', hi0', hz0, hz1, hz2⟩ := info_parts' info9
      obtain ⟨av, capv, rfl⟩ := ownsRow_val hrow4
      go_wp2_with (at_builtin; refine wpList_append_own _ rfl _ _ 22 rfl w.heap.size 9 i0' (.string ⟨#[]⟩) 1 16 Tryd.underlying22 hi0' hz0 hz1 hz2 rfl (by decide) _ _ _ rfl (hrow4.alloc _) ⟨w2.heap.size, 0, none⟩ 1 1 [.string ⟨(Lb.join x).toArray⟩] rfl rfl (cell_one_new _ _ _) ?c2 ?c3 ?c4 ?c5 ?_)
      case c2 => intro u hu; simp at hu; subst hu; rfl
      case c3 => unfold maxLen; omega
      case c4 => omega
      case c5 => have := hB4.size; simp; omega
      intro v' w3 hown' hgrow' _
      have hg2 := (World.grownBy_alloc w2 (.cells #[.string ⟨(Lb.join x).toArray⟩] 9) (Value.slice av out.length capv).ownBlock).trans hgrow'
      have hB5 := hB4.grown hg2 (by have := hB4.size; omega) (fun k hk => RowS.own hrow4 k hk)
      have hrow5 : RowS w.heap.size w3 v' (out ++ [Lb.join x]) := by
        unfold RowS strV
        rw [List.map_append, List.length_append]
        exact hown'
      have hinv : UnpackInv s.data.toList L w n v' (out ++ [Lb.join x]) w3 := by
        refine ⟨⟨g, ?_⟩, by omega, by simp; omega, hrow5, hB5⟩
        simpa using Hn.out
      clear hown' hgrow' hg2 hB5 hrow5 hrow4 hB4
      go_wp2
      exact ⟨⟨n, _, rfl, hinv⟩, by simp [intOf]; omega⟩

set_option maxHeartbeats 1600000 in
theorem sameTexts_same (v v' : Value) (l : List Lb.Bs) (w : World) (h : Strs w v l) (h' : Strs w v' l) :
    Calls Tryd.prog 22 #[v, v'] w fun e w' => e = .returned (.bool true) ∧ Below w.heap.size w w' := by
  obtain ⟨a, cap, rfl, hcap, hm, hcell⟩ := id h
  obtain ⟨a', cap', rfl, hcap', hm', hcell'⟩ := id h'
  clear hcell hcell'
  unfold maxLen at hm hm'
  go_enter Tryd.func22, Tryd.ntmps22
  go_wp2
  go_loopw [13] (fun i wr => ∃ k : Nat, k ≤ l.length ∧ i = .int .i64 k ∧ Below w.heap.size w wr) (fun i _ => l.length - (intOf i).toNat)
  case atStart => exact ⟨0, Nat.zero_le _, rfl, Below.refl _ _⟩
  case round =>
    obtain ⟨k, hk, rfl, hB⟩ := hrel
    by_cases hlt : k < l.length
    · have hne : l ≠ [] := by intro e; rw [e] at hlt; simp at hlt
      obtain ⟨b, o, rfl, hb, hc⟩ := strs_cells (h.later hB) hne
      obtain ⟨b', o', rfl, hb', hc'⟩ := strs_cells (h'.later hB) hne
      obtain ⟨x, hx⟩ : ∃ x, l[k]? = some x := ⟨l[k], List.getElem?_eq_getElem hlt⟩
      have hcx := hc k x hx
      have hcx' := hc' k x hx
      clear hx hc hc'
      have hoff : (0 : Int) ≤ k := by omega
      have hlt' : (k : Int) < l.length := by omega
      go_wp2_with fail
      go_region
      all_goals go_wp2
      all_goals exact ⟨⟨k + 1, by omega, by go_num, hB.drew⟩, by simp [intOf]; omega⟩
    · go_wp2
      go_ret
      exact ⟨rfl, hB⟩

set_option maxHeartbeats 1600000 in
theorem labelBack_any (v : Value) (l : List Lb.Bs) (w : World) (henv : Env w) (h : Strs w v l) :
    Calls Tryd.prog 8 #[v] w fun e w' => e = .returned (.bool true) ∧ Below w.heap.size w w' := by
  obtain ⟨a, cap, rfl, hcap, hm, hcell⟩ := id h
  clear hcell
  unfold maxLen at hm
  have hm30 : min l.length 30 ≤ l.length := Nat.min_le_left _ _
  have hS := h.take hm30
  have hl30 : (l.take (min l.length 30)).length ≤ 30 := by rw [List.length_take]; omega
  have HP := Lib.hid (pack_any _ _ w henv hS)
  have hlen : (l.take (min l.length 30)).length = min l.length 30 := by rw [List.length_take]; omega
  generalize l.take (min l.length 30) = m at *
  generalize hk : min l.length 30 = k at *
  have hmin : min (l.length : Int) 30 = (k : Int) := by omega
  have hkc : k ≤ cap := by omega
  clear hk
  by_cases hE : Lb.packE m = 0
  · have hfe : Lb.firstErr m = 0 := by
      unfold Lb.packE at hE
      split at hE
      · exact absurd hE (by decide)
      · split at hE
        · rename_i h2; exact absurd hE h2
        · rename_i h2; exact Decidable.of_not_not h2
    have hn := Lb.back_law m (Lb.firstErr_ok.1 hfe) (by omega) 40 (by omega)
    have hb : packS m = Lb.packB m := by unfold packS; rw [if_pos hE]
    rw [← hb] at hn
    have HU := fun w henv => Lib.hid (unpack_any ⟨(packS m).toArray⟩ m w henv rfl hE hn)
    have HU := Lib.hid HU
    rw [hE] at HP
    clear hE hfe hn hb
    go_enter Tryd.func8, Tryd.ntmps8
    go_wp2_with fail
    refine HP.out.mono ?_
    rintro e w1 ⟨rfl, hB1⟩
    go_wp2_with fail
    refine (HU.out w1 (henv.later hB1)).out.mono ?_
    rintro e w2 ⟨vm, rfl, hrow, hB2⟩
    have hA2 := hB1.trans (hB2.mono hB1.size)
    go_wp2_with fail
    refine (labelFact_any _ (henv.later hA2)).mono ?_
    rintro e w3 ⟨rfl, hB3⟩
    have hA3 := hA2.trans (hB3.mono hA2.size)
    have hS3 := hS.later hA3
    have hrow3 := (hrow.later hB3).strs
    rw [hlen] at *
    go_wp2_with fail
    refine (sameTexts_same _ vm m w3 hS3 hrow3).mono ?_
    rintro e w4 ⟨rfl, hB4⟩
    have hA4 := hA3.trans (hB4.mono hA3.size)
    go_wp2
    go_ret
    exact ⟨rfl, hA4⟩
  · have hs : packS m = [] := by unfold packS; rw [if_neg hE]
    rw [hs] at HP
    have hc : (Lb.packE m == 0) = false := beq_eq_false_iff_ne.2 hE
    have hc2 : (Lb.packE m != 0) = true := by rw [bne, hc]; rfl
    generalize Lb.packE m = q at *
    go_enter Tryd.func8, Tryd.ntmps8
    go_wp2_with fail
    refine HP.out.mono ?_
    rintro e w1 ⟨rfl, hB1⟩
    go_wp2_with fail
    refine (labelFact_any _ (henv.later hB1)).mono ?_
    rintro e w6 ⟨rfl, hB6⟩
    go_wp2
    go_ret
    exact ⟨rfl, hB1.trans (hB6.mono hB1.size)⟩
end Go.Proofs.YtajllcbjgndcpaaDoor
