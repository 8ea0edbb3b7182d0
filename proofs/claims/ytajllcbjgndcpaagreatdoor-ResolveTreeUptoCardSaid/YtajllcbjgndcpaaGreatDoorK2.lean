/- WALKS: IndexFunc on entries, Clone, DeleteFunc, Delete. -/
import Derived.Test.YtajllcbjgndcpaaGreatDoorK1
import Derived.Deep.AppendLies
import Derived.Deep.Upon
namespace Go.Proofs.YtajllcbjgndcpaaGreatDoor
open Go.RowKit Go.Maps

theorem recs_len (l : List Cb.Rec) : (l.flatMap recV).length = l.length * 4 := by
  induction l with
  | nil => rfl
  | cons x r ih => rw [List.flatMap_cons, List.length_append, ih, recV_len, List.length_cons]; omega
theorem ents_len (l : List EV) : (l.flatMap entV).length = l.length * 9 := by
  induction l with
  | nil => rfl
  | cons x r ih => rw [List.flatMap_cons, List.length_append, ih, entV_len, List.length_cons]; omega
theorem info39 : (Tryz.prog.info? 43).map (fun i => (i.zero, i.size, i.bytes)) = some (some (.agg #[.string ⟨#[]⟩, .int .i64 0, .int .i64 0, .string ⟨#[]⟩]), 4, 48) := by kernel_rfl

set_option maxHeartbeats 1600000 in
set_option maxRecDepth 100000 in
/-- Clone makes a row of its own. -/
theorem clone_any (B : Nat) (v : Value) (l : List Cb.Rec) (w : World) (h : Recs B w v l) (hl : l.length ≤ 100000) :
    Calls Tryz.prog 26 #[v] w fun e w' => ∃ v', e = .returned v' ∧ RowR w.heap.size w' v' l ∧ Below w.heap.size w w' := by
  have q29 : ∀ (w : World) (a : Option Addr) (n c n' c' : Nat), (binOp .eql 22 (.slice a n c) (.slice none n' c')).run Tryz.prog w = .ok (.bool a.isNone) w := fun w a n c n' c' => Lib.run_eql_slice_nil w _ _ a n c n' c' Tryz.underlying22
  obtain ⟨a, cap, rfl, hcap, hm, hcell⟩ := h
  cases a with
  | none =>
    have : l = [] := by
      cases l with
      | nil => rfl
      | cons x r => obtain ⟨b, o, h, _⟩ := hcell (by simp); cases h
    subst this
    clear hcell
    unfold maxLen at hm
    go_enter Tryz.func26, Tryz.ntmps26
    go_wp2
    go_ret
    exact ⟨_, rfl, World.ownsRow_nil _ _ _ _, Below.refl _ _⟩
  | some ad =>
    obtain ⟨i0, hi, hz0, hz1, hz2⟩ := info_parts info39
    have hnews : ∀ j u, (l.flatMap recV)[j]? = some u → w.cell? (ad.add j) = some u := by
      intro j u hu
      have hj := (List.getElem?_eq_some_iff.1 hu).1
      have hne : l ≠ [] := by rintro rfl; simp at hj
      obtain ⟨b, o, ho, _, _, hc⟩ := hcell hne
      injection ho with ho
      subst ho
      have hlen : (l.flatMap recV).length = l.length * 4 := recs_len l
      obtain ⟨x, hx⟩ : ∃ x, l[j / 4]? = some x := ⟨l[j / 4]'(by omega), List.getElem?_eq_getElem (by omega)⟩
      obtain ⟨y, hy⟩ : ∃ y, (recV x)[j % 4]? = some y := ⟨(recV x)[j % 4]'(by rw [recV_len]; omega), List.getElem?_eq_getElem _⟩
      have h1 := flat_at recV 4 recV_len l (j / 4) x hx (j % 4) y hy
      rw [show j / 4 * 4 + j % 4 = j by omega, hu] at h1
      injection h1 with h1
      subst h1
      have h2 := hc (j / 4) x hx (j % 4) u hy
      rw [add_at]
      rw [show o + j / 4 * 4 + j % 4 = o + j by omega] at h2
      exact h2
    have hlen : (l.flatMap recV).length = l.length * 4 := recs_len l
    have hone : ∀ u ∈ l.flatMap recV, u.oneCell' = true := by
      intro u hu
      obtain ⟨x, _, hx⟩ := List.mem_flatMap.1 hu
      simp [recV] at hx
      rcases hx with rfl | rfl | rfl | rfl <;> rfl
    have Hn := Lib.hid hnews
    have Ho := Lib.hid hone
    clear hnews hone hcell
    unfold maxLen at hm
    go_enter Tryz.func26, Tryz.ntmps26
    go_wp2_with (at_builtin; refine wpList_append_own _ rfl _ _ 22 rfl w.heap.size 43 i0 _ 4 48 Tryz.underlying22 hi hz0 hz1 hz2 rfl (by decide) _ _ _ rfl (World.ownsRow_made w #[] 0 (Nat.le_refl _) (Nat.zero_le _) (by simp)) ad l.length cap (l.flatMap recV) rfl hlen ?c1 Ho.out ?c3 ?c4 ?c5 ?_)
    case c1 => intro j u hj; exact Lib.cell?_alloc_some _ (Hn.out j u hj)
    case c3 => unfold maxLen; omega
    case c4 => omega
    case c5 => simp
    intro v' w1 hown hgrow hnil
    have hB : Below w.heap.size w w1 := ((Below.refl _ w).alloc (Nat.le_refl _) _).grown hgrow (by simp) (fun k hk => by injection hk with hk; subst hk; exact Nat.le_refl _)
    have hown2 : RowR w.heap.size w1 v' l := by unfold RowR; simpa using hown
    clear hown hgrow hnil
    go_wp2
    go_ret
    exact ⟨_, rfl, hown2, hB⟩
end Go.Proofs.YtajllcbjgndcpaaGreatDoor
