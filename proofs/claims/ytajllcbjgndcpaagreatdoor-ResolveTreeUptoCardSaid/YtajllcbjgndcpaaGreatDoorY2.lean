/- WALKS: reply.records. -/
import Derived.Test.YtajllcbjgndcpaaGreatDoorY1
import Derived.Test.YtajllcbjgndcpaaGreatDoorRnLaws
namespace Go.Proofs.YtajllcbjgndcpaaGreatDoor
open Go.RowKit Go.Maps

theorem RowR.snoc {B : Nat} {w : World} {v : Value} {l : List Cb.Rec} {r : Cb.Rec} (h : w.ownsRow B 43 4 v (l.length + 1) (l.flatMap recV ++ recV r)) : RowR B w v (l ++ [r]) := by
  unfold RowR
  rw [List.flatMap_append, List.length_append]
  simpa using h
theorem RowR.ownB {B : Nat} {w : World} {v : Value} {l : List Cb.Rec} (h : RowR B w v l) (k : Nat) (hk : v.ownBlock = some k) : B ≤ k := by
  rcases h.2 with ⟨rfl, _⟩ | ⟨g, cap, cur, rfl, h3, _⟩
  · cases hk
  · injection hk with hk; subst hk; exact h3
theorem rec_one (r : Cb.Rec) : ∀ u ∈ recV r, u.oneCell' = true := by
  intro u hu
  simp [recV] at hu
  rcases hu with rfl | rfl | rfl | rfl <;> rfl
def RcInv (l : List Cb.Rec) (nm as_ : Lb.Bs) (kd : Int) (B : Nat) (w0 : World) (k : Nat) (v : Value) (wr : World) : Prop := RowR B wr v (Rn.recsOf (l.take k) nm kd as_) ∧ Below B w0 wr
def RcEnd (l : List Cb.Rec) (w0 : World) (e : Ending) (w' : World) : Prop := ∃ v, e = .returned v ∧ RowR w0.heap.size w' v l ∧ Below w0.heap.size w0 w'
theorem recsOf_next {l : List Cb.Rec} {nm as_ : Lb.Bs} {kd : Int} {k : Nat} {x : Cb.Rec} (h : l[k]? = some x) : Rn.recsOf (l.take (k + 1)) nm kd as_ = Rn.recsOf (l.take k) nm kd as_ ++ if Rn.hit nm kd x = true then [Rn.named as_ x] else [] := by
  unfold Rn.recsOf
  rw [List.take_add_one, h, List.filter_append, List.map_append]
  congr 1
  by_cases hh : Rn.hit nm kd x = true
  · rw [if_pos hh]; simp [hh]
  · rw [if_neg hh]; simp [hh]
theorem recsOf_len (l : List Cb.Rec) (nm as_ : Lb.Bs) (kd : Int) (k : Nat) : (Rn.recsOf (l.take k) nm kd as_).length ≤ k := by
  unfold Rn.recsOf
  rw [List.length_map]
  exact filter_le _ _ _

set_option maxHeartbeats 6400000 in
set_option maxRecDepth 100000 in
theorem records_any (B : Nat) (o : Lb.Bs) (za : Option Addr) (zc : Nat) (l : List Cb.Rec) (nm as_ : Lb.Bs) (kd : Int) (w : World) (hr : Recs B w (.slice za l.length zc) l) (hl : l.length ≤ 100000) :
    Calls Tryz.prog 58 #[zoneV o za l.length zc, .string ⟨nm.toArray⟩, .int .i64 kd, .string ⟨as_.toArray⟩] w (RcEnd (Rn.recsOf l nm kd as_) w) := by
  unfold zoneV
  have HBa := Lib.hid ((Below.refl _ w).alloc (Nat.le_refl _) (.cells #[.string ⟨o.toArray⟩, .slice za l.length zc] 24))
  have HR := Lib.hid hr
  have hlen : (l.length : Int) ≤ 100000 := by omega
  clear hr
  go_enter Tryz.func58, Tryz.ntmps58
  go_wp2
  generalize w.alloc (.cells #[.string ⟨o.toArray⟩, .slice za l.length zc] 24) = w1 at *
  go_loopw [9, 15] (fun ov kv wr => ∃ (k : Nat), k ≤ l.length ∧ kv = .int .i64 k ∧ Hid (RcInv l nm as_ kd w.heap.size w1 k ov wr)) (fun _ kv _ => l.length - (intOf kv).toNat)
  case atStart => exact ⟨0, Nat.zero_le _, rfl, ⟨World.ownsRow_nil _ _ _ _, Below.refl _ _⟩⟩
  case round =>
    obtain ⟨k, hk, rfl, HI⟩ := hrel
    have hrow := HI.out.1
    have hcnt := recsOf_len l nm as_ kd k
    obtain ⟨out, hout⟩ : ∃ out, Rn.recsOf (l.take k) nm kd as_ = out := ⟨_, rfl⟩
    rw [hout] at hrow hcnt
    have Hout := Lib.hid hout
    clear hout
    obtain ⟨av, capv, rfl⟩ := ownsRow_val hrow
    have HBt := Lib.hid (HBa.out.trans HI.out.2)
    by_cases hlt : k < l.length
    · obtain ⟨x, hx⟩ : ∃ x, l[k]? = some x := ⟨l[k], List.getElem?_eq_getElem hlt⟩
      obtain ⟨b, p, rfl, hb, c0, c1, c2, c3⟩ := recs_at (HR.out.later HBt.out) hx
      have hi0 : (0 : Int) ≤ (k : Int) := by omega
      have hi1 : (k : Int) < (l.length : Int) := by omega
      have hnext := recsOf_next (nm := nm) (as_ := as_) (kd := kd) hx
      clear hx
      obtain ⟨xn, xk, xt, xd⟩ := x
      dsimp only at *
      by_cases hh : Rn.hit nm kd ⟨xn, xk, xt, xd⟩ = true
      · rw [if_pos hh] at hnext
        obtain ⟨e1, e2⟩ := Rn.hit_true.1 hh
        dsimp only at e1 e2
        subst e1
        have Hnext := Lib.hid hnext
        clear hh hnext
        have hcases : ((kd == 0) = true) ∨ ((kd == 0) = false ∧ (xk == kd) = true) := by
          rcases e2 with e2 | e2
          · exact .inl (by rw [beq_iff_eq]; exact e2)
          · by_cases e : kd = 0
            · exact .inl (by rw [beq_iff_eq]; exact e)
            · exact .inr ⟨beq_eq_false_iff_ne.2 e, by rw [beq_iff_eq]; exact e2⟩
        clear e2
        obtain ⟨i0, hi, hz0, hz1, hz2⟩ := info_parts info39
        rcases hcases with hk0 | ⟨hk0, hk1⟩
        all_goals
          go_wp2_with (at_builtin; go_loud (refine wpList_append_own _ rfl _ _ 22 rfl w.heap.size 43 i0 _ 4 48 Tryz.underlying22 hi hz0 hz1 hz2 rfl (by decide) _ _ _ rfl (hrow.later (((Below.refl _ wr).alloc (Nat.le_refl _) _).alloc (by simp) _)) _ 1 1 (recV ⟨as_, xk, xt, xd⟩) rfl rfl ?c1 (rec_one _) ?c3 ?c4 ?c5 ?_))
          case c1 => exact World.news_of_block (cs := (recV ⟨as_, xk, xt, xd⟩).toArray) (fr := (0, 0)) (blk_second wr _ _ _)
          case c3 => unfold maxLen; omega
          case c4 => omega
          case c5 => have := HBt.out.size; simp; omega
          intro v' w3 hown' hgrow' _
          have hB2 := (((Below.refl _ wr).alloc (Nat.le_refl _) (.cells #[.string ⟨as_.toArray⟩, .int .i64 xk, .int .i64 xt, .string ⟨xd.toArray⟩] 43)).alloc (by simp) (.cells #[.string ⟨as_.toArray⟩, .int .i64 xk, .int .i64 xt, .string ⟨xd.toArray⟩] 43))
          have hB3 := (HI.out.2.trans (hB2.mono HBt.out.size)).grown hgrow' (by have := HBt.out.size; simp; omega) (fun k hk => RowR.ownB hrow k hk)
          have hinv : RcInv l xn as_ kd w.heap.size w1 (k + 1) v' w3 := ⟨by rw [Hnext.out]; exact RowR.snoc (by rw [Hout.out]; exact hown'), hB3⟩
          have Hinv := Lib.hid hinv
          clear hown' hgrow' hB2 hB3 hinv Hnext Hout hrow c0 c1 c2 c3
          go_wp2
          refine ⟨⟨k + 1, by omega, by go_num, Hinv.out⟩, by simp [intOf]; omega⟩
      · rw [if_neg hh, List.append_nil] at hnext
        have hB2 := HI.out.2.alloc HBt.out.size (.cells #[.string ⟨xn.toArray⟩, .int .i64 xk, .int .i64 xt, .string ⟨xd.toArray⟩] 43)
        have hinv : RcInv l nm as_ kd w.heap.size w1 (k + 1) (.slice av out.length capv) (wr.alloc (.cells #[.string ⟨xn.toArray⟩, .int .i64 xk, .int .i64 xt, .string ⟨xd.toArray⟩] 43)) := ⟨by rw [hnext, Hout.out]; exact hrow.later ((Below.refl _ wr).alloc (Nat.le_refl _) _), hB2⟩
        have Hinv := Lib.hid hinv
        have hcases : ((xn == nm) = false) ∨ (xn = nm ∧ (kd == 0) = false ∧ (xk == kd) = false) := by
          by_cases e : xn = nm
          · refine .inr ⟨e, ?_, ?_⟩
            · exact beq_eq_false_iff_ne.2 fun e2 => hh (Rn.hit_true.2 ⟨e, .inl e2⟩)
            · exact beq_eq_false_iff_ne.2 fun e2 => hh (Rn.hit_true.2 ⟨e, .inr e2⟩)
          · exact .inl (beq_eq_false_iff_ne.2 e)
        clear hB2 hinv hnext hh hrow Hout
        rcases hcases with hc | ⟨rfl, hc, hd⟩
        all_goals
          go_wp2
          refine ⟨⟨k + 1, by omega, by go_num, Hinv.out⟩, by simp [intOf]; omega⟩
    · obtain rfl : k = l.length := by omega
      have hout := Hout.out
      rw [List.take_length] at hout
      have HO := Lib.hid hrow
      have Hout2 := Lib.hid hout
      clear hrow hout Hout
      go_wp2
      go_ret
      exact ⟨_, rfl, by rw [Hout2.out]; exact HO.out, HBt.out⟩
end Go.Proofs.YtajllcbjgndcpaaGreatDoor
