/- WALK: take (the labels at a place), where it succeeds. -/
import Derived.Test.YtajllcbjgndcpaaDoorW12
import Derived.Laws.DeepStrings4
namespace Go.Proofs.YtajllcbjgndcpaaDoor
open Go.RowKit Go.Maps

theorem info9 : (Tryd.prog.info? 9).map (fun i => (i.zero, i.size, i.bytes)) = some (some (.string ⟨#[]⟩), 1, 16) := by kernel_rfl
theorem info_parts' {i? : Option TypeInfo} {z : Value} {a b : Nat} (h : i?.map (fun i => (i.zero, i.size, i.bytes)) = some (some z, a, b)) : ∃ i, i? = some i ∧ i.zero = some z ∧ i.size = a ∧ i.bytes = b := by
  cases i? with
  | none => cases h
  | some i => simp at h; exact ⟨i, rfl, h.1, h.2.1, h.2.2⟩

/-- A row of strings of the call's own. -/
def strV (l : List Lb.Bs) : List Value := l.map fun x => .string ⟨x.toArray⟩
def RowS (B : Nat) (w : World) (v : Value) (l : List Lb.Bs) : Prop := w.ownsRow B 9 1 v l.length (strV l)
theorem RowS.strs {B : Nat} {w : World} {v : Value} {l : List Lb.Bs} (h : RowS B w v l) : Strs w v l := by
  rcases h.2 with ⟨rfl, hn⟩ | ⟨g, cap, cur, rfl, _, hg, h1, h2, _⟩
  · have : l = [] := List.eq_nil_of_length_eq_zero hn
    subst this
    exact ⟨none, 0, rfl, Nat.le_refl _, by unfold maxLen; omega, fun h => absurd rfl h⟩
  · refine ⟨_, cap, rfl, h1, h2, fun _ => ⟨g, 0, rfl, (Array.getElem?_eq_some_iff.1 hg).1, fun j x hx => ?_⟩⟩
    have := World.ownsRow.cells h (g := g) rfl j (.string ⟨x.toArray⟩) (by simp [strV, hx])
    rw [add_at] at this
    rw [this]
theorem RowS.later {B : Nat} {w w' : World} {v : Value} {l : List Lb.Bs} (h : RowS B w v l) (hb : Below w.heap.size w w') : RowS B w' v l := by
  refine ⟨h.1, ?_⟩
  rcases h.2 with h2 | ⟨g, cap, cur, h2, h3, h4, h5⟩
  · exact .inl h2
  · exact .inr ⟨g, cap, cur, h2, h3, (hb.block g (Array.getElem?_eq_some_iff.1 h4).1).trans h4, h5⟩

theorem RowS.own {B : Nat} {w : World} {v : Value} {l : List Lb.Bs} (h : RowS B w v l) (k : Nat) (hk : v.ownBlock = some k) : B ≤ k := by
  rcases h.2 with ⟨rfl, _⟩ | ⟨g, cap, cur, rfl, h3, _⟩
  · cases hk
  · injection hk with hk; subst hk; exact h3
theorem byte_at (s : ByteArray) (i : Nat) (h : i < s.size) : Lb.byteAt s.data.toList i = (s[i]'h).toNat := by
  unfold Lb.byteAt
  have : s.data.toList[i]? = some (s[i]'h) := by simp [h]; rfl
  rw [List.getD_eq_getElem?_getD, this]; rfl
theorem byte_lt (s : Lb.Bs) (i : Nat) : Lb.byteAt s i < 256 := by unfold Lb.byteAt; exact UInt8.toNat_lt _
theorem cut_bytes (s : ByteArray) (i n : Nat) : s.extract i (i + n) = ⟨((s.data.toList.drop i).take n).toArray⟩ := by
  apply ByteArray.ext
  apply Array.toList_inj.1
  simp [ByteArray.data_extract, Array.toList_extract]

theorem take_step {s : Lb.Bs} {f i : Nat} {l : List Lb.Bs} {e : Int} {r : List Lb.Bs × Int} (h : Lb.take s f i l e = some r) : ∃ g, f = g + 1 ∧ i < s.length ∧
    ((Lb.byteAt s i = 0 ∧ r = (l, max e (i + 1))) ∨
     (0 < Lb.byteAt s i ∧ Lb.byteAt s i < 64 ∧ i + 1 + Lb.byteAt s i ≤ s.length ∧ Lb.take s g (i + 1 + Lb.byteAt s i) (l ++ [(s.drop (i + 1)).take (Lb.byteAt s i)]) e = some r) ∨
     (192 ≤ Lb.byteAt s i ∧ i + 1 < s.length ∧ (Lb.byteAt s i - 192) * 256 + Lb.byteAt s (i + 1) < i ∧ Lb.take s g ((Lb.byteAt s i - 192) * 256 + Lb.byteAt s (i + 1)) l (if e < 0 then i + 2 else e) = some r)) := by
  cases f with
  | zero => simp [Lb.take] at h
  | succ g =>
    refine ⟨g, rfl, ?_⟩
    unfold Lb.take at h
    split at h
    · cases h
    · rename_i h1
      refine ⟨by omega, ?_⟩
      split at h
      · rename_i h2
        injection h with h
        exact .inl ⟨h2, h.symm⟩
      · rename_i h2
        split at h
        · rename_i h3
          exact .inr (.inl ⟨by omega, h3.1, h3.2, h⟩)
        · split at h
          · rename_i h4
            split at h
            · cases h
            · rename_i h5
              exact .inr (.inr ⟨h4.1, h4.2, by omega, h⟩)
          · cases h

theorem ptr_bits (n b : Nat) (h : 192 ≤ n) (hn : n < 256) (hb : b < 256) : bits BinOp.or IntKind.i64 (((n : Int) - 192) * 256) (b : Int) = (((n - 192) * 256 + b : Nat) : Int) := by
  have key : ∀ q : Fin 64, ∀ b : Fin 256, bits BinOp.or IntKind.i64 ((q.val : Int) * 256) (b.val : Int) = ((q.val * 256 + b.val : Nat) : Int) := by decide +kernel
  have := key ⟨n - 192, by omega⟩ ⟨b, hb⟩
  simp only at this
  rw [← this]
  congr 2
  omega

/-- What the loop of take carries. -/
def TakeInv (s : Lb.Bs) (r : List Lb.Bs × Int) (w0 : World) (k i : Nat) (v : Value) (l : List Lb.Bs) (e : Int) (wr : World) : Prop :=
  Lb.take s (20 - k) i l e = some r ∧ i ≤ 5000 ∧ -1 ≤ e ∧ e ≤ 5000 ∧ l.length ≤ k ∧ RowS w0.heap.size wr v l ∧ Below w0.heap.size w0 wr
/-- What take leaves. -/
def TakeEnd (r : List Lb.Bs × Int) (w0 : World) (en : Ending) (w' : World) : Prop :=
  ∃ v, en = .returned (.tuple #[v, .int .i64 r.2]) ∧ RowS w0.heap.size w' v r.1 ∧ Below w0.heap.size w0 w'

set_option maxHeartbeats 1600000 in
set_option maxRecDepth 100000 in
theorem take_any (s : ByteArray) (i0 : Nat) (r : List Lb.Bs × Int) (w : World) (hs : s.size ≤ 4096) (hi0 : i0 ≤ 4096) (h : Lb.take s.data.toList 20 i0 [] (-1) = some r) :
    Calls Tryd.prog 44 #[.string s, .int .i64 (i0 : Int)] w (TakeEnd r w) := by
  have hlen : s.data.toList.length = s.size := size_len s
  go_enter Tryd.func44, Tryd.ntmps44
  go_wp2
  go_loopw [1, 6, 7, 10] (fun p v q c wr => ∃ (k i : Nat) (l : List Lb.Bs) (e : Int), k ≤ 20 ∧ c = .int .i64 k ∧ p = .int .i64 i ∧ q = .int .i64 e ∧ TakeInv s.data.toList r w k i v l e wr) (fun _ _ _ c _ => 20 - (intOf c).toNat)
  case atStart => exact ⟨0, i0, [], -1, by omega, rfl, rfl, rfl, h, by omega, by omega, by omega, Nat.le_refl _, World.ownsRow_nil _ _ _ _, Below.refl _ _⟩
  case round =>
    obtain ⟨k, i, l, e, hk, rfl, rfl, rfl, hinv⟩ := hrel
    obtain ⟨ht, hi, he1, he2, hl, hrow, hB⟩ := hinv
    obtain ⟨g, hg, hilt, hcase⟩ := take_step ht
    have hklt : k < 20 := by omega
    rw [hlen] at hilt hcase
    have hb0 := byte_at s i hilt
    have hn256 := byte_lt s.data.toList i
    rcases hcase with ⟨hz, hr⟩ | ⟨h1, h2, h3, h4⟩ | ⟨h1, h2, h3, h4⟩
    · rw [hz] at hb0
      have hz2 : ((s[i]'hilt).toNat : Int) = 0 := by omega
      have Hr := Lib.hid hr
      clear ht hr hb0 hz h
      go_wp2
      go_ret2
      obtain rfl := Hr.out
      exact ⟨_, rfl, hrow, hB⟩
    · rw [hb0] at h1 h2 h3 h4
      generalize hn : (s[i]'hilt).toNat = n at *
      have hcut := cut_bytes s (i + 1) n
      have Hcut := Lib.hid hcut
      have H4 := Lib.hid h4
      clear ht hb0 h hcut h4
      obtain ⟨i0', hi0', hz0, hz1, hz2⟩ := info_parts' info9
      have hne : ((n : Int) == 0) = false := by rw [beq_eq_false_iff_ne]; omega
      have hlt64 : decide ((n : Int) < 64) = true := by rw [decide_eq_true_iff]; omega
      obtain ⟨av, capv, rfl⟩ := ownsRow_val hrow
      go_wp2_with (at_builtin; refine wpList_append_own _ rfl _ _ 22 rfl w.heap.size 9 i0' (.string ⟨#[]⟩) 1 16 Tryd.underlying22 hi0' hz0 hz1 hz2 rfl (by decide) _ _ _ rfl (hrow.alloc _) ⟨wr.heap.size, 0, none⟩ 1 1 [.string (s.extract (i + 1) (i + 1 + n))] rfl rfl (cell_one_new _ _ _) ?c2 ?c3 ?c4 ?c5 ?_)
      case c2 => intro u hu; simp at hu; subst hu; rfl
      case c3 => unfold maxLen; omega
      case c4 => omega
      case c5 => have := hB.size; simp; omega
      intro v' w1 hown' hgrow' _
      have hg2 := (World.grownBy_alloc wr (.cells #[.string (s.extract (i + 1) (i + 1 + n))] 9) (Value.slice av l.length capv).ownBlock).trans hgrow'
      have hB2 := hB.grown hg2 (by have := hB.size; omega) (fun k hk => RowS.own hrow k hk)
      have hrow2 : RowS w.heap.size w1 v' (l ++ [(s.data.toList.drop (i + 1)).take n]) := by
        unfold RowS strV
        rw [List.map_append, List.length_append]
        simp only [List.map_cons, List.map_nil, List.length_singleton]
        rw [← Hcut.out]
        exact hown'
      have hinv : TakeInv s.data.toList r w (k + 1) (i + 1 + n) v' (l ++ [(s.data.toList.drop (i + 1)).take n]) e w1 := by
        refine ⟨?_, by omega, he1, he2, by simp; omega, hrow2, hB2⟩
        have := H4.out
        rwa [show 20 - (k + 1) = g by omega]
      clear hown' hgrow' hg2 hB2 hrow2 hrow hB
      go_wp2
      exact ⟨⟨k + 1, i + 1 + n, _, e, by omega, by go_num, by go_num, rfl, hinv⟩, by simp [intOf]; omega⟩
    · have hb1 := byte_at s (i + 1) h2
      have hn256' := byte_lt s.data.toList (i + 1)
      rw [hb0] at h1 h3 h4 hn256
      rw [hb1] at h3 h4 hn256'
      generalize hn : (s[i]'hilt).toNat = n at *
      generalize hm : (s[i + 1]'h2).toNat = m at *
      have hbits := ptr_bits n m h1 hn256 hn256'
      generalize hT : (n - 192) * 256 + m = T at *
      have H4 := Lib.hid h4
      clear ht hb0 hb1 h h4 hT
      go_wp2
      all_goals clear hbits
      all_goals first
        | exact ⟨⟨k + 1, T, _, (i : Int) + 2, by omega, by go_num, rfl, rfl, by have h4 := H4.out; rw [if_pos (by omega)] at h4; rwa [show 20 - (k + 1) = g by omega], by omega, by omega, by omega, by omega, hrow, hB⟩, by simp [intOf]; omega⟩
        | exact ⟨⟨k + 1, T, _, e, by omega, by go_num, rfl, rfl, by have h4 := H4.out; rw [if_neg (by omega)] at h4; rwa [show 20 - (k + 1) = g by omega], by omega, by omega, by omega, by omega, hrow, hB⟩, by simp [intOf]; omega⟩
end Go.Proofs.YtajllcbjgndcpaaDoor
