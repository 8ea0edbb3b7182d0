/- WALKS: SameRecords, SameReply. -/
import Derived.Test.YtajllcbjgndcpaaGreatDoorK9
import Derived.Deep.QuietTactic
import Derived.BigQuiet
namespace Go.Proofs.YtajllcbjgndcpaaGreatDoor
open Go.RowKit Go.Maps

theorem rec_str {a b : Lb.Bs} : ((⟨a.toArray⟩ : ByteArray).toList == (⟨b.toArray⟩ : ByteArray).toList) = decide (a = b) := by
  rw [ByteArray.toList_eq, ByteArray.toList_eq, Bool.eq_iff_iff]; simp
/-- The model's != on two records. -/
theorem rec_neq (x y : Cb.Rec) (w : World) : (binOp .neq 43 (.agg #[.string ⟨x.name.toArray⟩, .int .i64 x.kind, .int .i64 x.ttl, .string ⟨x.data.toArray⟩]) (.agg #[.string ⟨y.name.toArray⟩, .int .i64 y.kind, .int .i64 y.ttl, .string ⟨y.data.toArray⟩])).run Tryz.prog w = .ok (.bool (!decide (x = y))) w := by
  obtain ⟨n, k, t, d⟩ := x
  obtain ⟨n', k', t', d'⟩ := y
  rw [run_neq_struct, run_equalIn_agg w 9999 43 _ _ (by kernel_rfl) (by kernel_rfl)]
  simp only [Program.fieldsOf, Tryz.underlying43]
  simp only [Cb.Rec.mk.injEq]
  by_cases h1 : n = n'
  · by_cases h2 : k = k'
    · by_cases h3 : t = t'
      · by_cases h4 : d = d'
        · subst h1 h2 h3 h4
          go_simp
        · subst h1 h2 h3
          go_simp
      · have h3' : (t == t') = false := beq_eq_false_iff_ne.2 h3
        subst h1 h2
        go_simp
    · have h2' : (k == k') = false := beq_eq_false_iff_ne.2 h2
      subst h1
      go_simp
  · have h1' : ((⟨n.toArray⟩ : ByteArray).toList == (⟨n'.toArray⟩ : ByteArray).toList) = false := by rw [rec_str]; simp [h1]
    go_simp

def SameQ (b : Bool) (w0 : World) (e : Ending) (w' : World) : Prop := e = .returned (.bool b) ∧ ∃ q, w' = w0.drewN q
theorem same_pre {l m : List Cb.Rec} {k : Nat} (h : l.take k = m.take k) {x y : Cb.Rec} (hx : l[k]? = some x) (hy : m[k]? = some y) (e : x = y) : l.take (k + 1) = m.take (k + 1) := by
  rw [List.take_add_one, List.take_add_one, h, hx, hy, e]
theorem same_not {l m : List Cb.Rec} {k : Nat} {x y : Cb.Rec} (hx : l[k]? = some x) (hy : m[k]? = some y) (e : x ≠ y) : decide (l = m) = false := by
  rw [decide_eq_false_iff_not]; rintro rfl; rw [hx] at hy; injection hy with hy; exact e hy

set_option maxHeartbeats 1600000 in
set_option maxRecDepth 100000 in
theorem sameRecs_any (B : Nat) (v1 v2 : Value) (l m : List Cb.Rec) (w : World) (h1 : Recs B w v1 l) (h2 : Recs B w v2 m) :
    Calls Tryz.prog 31 #[v1, v2] w (SameQ (decide (l = m)) w) := by
  obtain ⟨a, cap, rfl, hc, hm, hh⟩ := id h1
  obtain ⟨a2, cap2, rfl, hc2, hm2, hh2⟩ := id h2
  unfold maxLen at hm hm2
  have H1 := Lib.hid h1
  have H2 := Lib.hid h2
  clear h1 h2 hh hh2
  by_cases hlen : l.length = m.length
  · have hle : decide (l.length = m.length) = true := by simp [hlen]
    obtain ⟨n, hn⟩ : ∃ n, n = l.length := ⟨_, rfl⟩
    have hn2 : n = m.length := hn.trans hlen
    have Hn := Lib.hid hn
    have Hn2 := Lib.hid hn2
    rw [← hn] at hc
    rw [← hn2] at hc2
    rw [← hn, ← hn2]
    clear hlen hn hn2 hle
    go_enter Tryz.func31, Tryz.ntmps31
    go_wp2
    go_loopw [13] (fun i wr => ∃ k : Nat, k ≤ n ∧ i = .int .i64 k ∧ Hid (l.take k = m.take k) ∧ ∃ q, wr = w.drewN q) (fun i _ => n - (intOf i).toNat)
    case atStart => exact ⟨0, Nat.zero_le _, rfl, rfl, 0, rfl⟩
    case round =>
      obtain ⟨k, hk, rfl, HT, q, rfl⟩ := hrel
      by_cases hlt : k < n
      · have hkl : k < l.length := Hn.out ▸ hlt
        have hkm : k < m.length := Hn2.out ▸ hlt
        obtain ⟨x, hx⟩ : ∃ x, l[k]? = some x := ⟨l[k], List.getElem?_eq_getElem hkl⟩
        obtain ⟨y, hy⟩ : ∃ y, m[k]? = some y := ⟨m[k], List.getElem?_eq_getElem hkm⟩
        obtain ⟨b, o, rfl, hb, c0, c1, c2, c3⟩ := recs_at H1.out hx
        obtain ⟨b2, o2, rfl, hb2, d0, d1, d2, d3⟩ := recs_at H2.out hy
        have hi0 : (0 : Int) ≤ (k : Int) := by omega
        have hi1 : (k : Int) < (n : Int) := by omega
        have HX := Lib.hid hx
        have HY := Lib.hid hy
        have heq := fun W => rec_neq x y W
        have Hne := Lib.hid (show x ≠ y → decide (l = m) = false from same_not hx hy)
        have Hpre := Lib.hid (show x = y → l.take (k + 1) = m.take (k + 1) from same_pre HT.out hx hy)
        clear hx hy hkl hkm
        cases hd : decide (x = y) with
        | true =>
          have hxy := of_decide_eq_true hd
          have Hp := Lib.hid (Hpre.out hxy)
          simp only [hd, Bool.not_true] at heq
          clear hd hxy
          go_upto_region 6 with fail
          go_quiet (fail)
          go_wp2
          refine ⟨⟨k + 1, by omega, by go_num, Hp.out, q + nq, rfl⟩, by simp [intOf]; omega⟩
        | false =>
          have hxy := of_decide_eq_false hd
          have Hp := Lib.hid (Hne.out hxy)
          simp only [hd, Bool.not_false] at heq
          clear hd hxy
          go_upto_region 6 with fail
          go_quiet (fail)
          go_wp2
          go_ret
          exact ⟨by rw [Hp.out]; rfl, q + nq, by rw [World.drewN_drewN]⟩
      · obtain rfl : k = n := by omega
        have hlm : l = m := by
          have := HT.out
          rwa [List.take_of_length_le (by rw [← Hn.out]; exact Nat.le_refl _), List.take_of_length_le (by rw [← Hn2.out]; exact Nat.le_refl _)] at this
        have Hlm := Lib.hid (show decide (l = m) = true by rw [hlm]; simp)
        clear hlm
        go_wp2
        go_ret
        exact ⟨by rw [Hlm.out]; rfl, q, rfl⟩
  · have Hle := Lib.hid (show decide (l = m) = false by rw [decide_eq_false_iff_not]; rintro rfl; exact hlen rfl)
    generalize l.length = n1 at *
    generalize m.length = n2 at *
    have h1 : ((n1 : Int) == (n2 : Int)) = false := by rw [beq_eq_false_iff_ne]; omega
    have h2 : (n1 == n2) = false := by rw [beq_eq_false_iff_ne]; exact hlen
    clear hlen
    go_enter Tryz.func31, Tryz.ntmps31
    go_wp2
    go_ret
    exact ⟨by rw [Hle.out]; rfl, 0, rfl⟩

theorem Recs.val {B : Nat} {w : World} {v : Value} {l : List Cb.Rec} (h : Recs B w v l) : ∃ a cap, v = .slice a l.length cap := by
  obtain ⟨a, cap, hv, _⟩ := h
  exact ⟨a, cap, hv⟩
def SameB (b : Bool) (w0 : World) (e : Ending) (w' : World) : Prop := e = .returned (.bool b) ∧ Below w0.heap.size w0 w'
theorem below_dN {B : Nat} {a w : World} (h : Below B a w) (n : Nat) : Below B a (w.drewN n) := ⟨h.os, h.tape, h.output, h.size, h.block⟩
set_option maxHeartbeats 3200000 in
set_option maxRecDepth 100000 in
theorem sameReply_any (B : Nat) (c1 c2 n1 n2 : Int) (v1 v2 v3 u1 u2 u3 : Value) (l1 l2 l3 m1 m2 m3 : List Cb.Rec) (w : World) (hv1 : Recs B w v1 l1) (hv2 : Recs B w v2 l2) (hv3 : Recs B w v3 l3) (hu1 : Recs B w u1 m1) (hu2 : Recs B w u2 m2) (hu3 : Recs B w u3 m3) :
    Calls Tryz.prog 24 #[.agg #[.int .i64 c1, v1, v2, v3, .int .i64 n1], .agg #[.int .i64 c2, u1, u2, u3, .int .i64 n2]] w
      (SameB (decide (c1 = c2) && decide (n1 = n2) && decide (l1 = m1) && decide (l2 = m2) && decide (l3 = m3)) w) := by
  have H1 := Lib.hid (fun W (hW : Below w.heap.size w W) => sameRecs_any B v1 u1 l1 m1 W (hv1.later hW) (hu1.later hW))
  have H2 := Lib.hid (fun W (hW : Below w.heap.size w W) => sameRecs_any B v2 u2 l2 m2 W (hv2.later hW) (hu2.later hW))
  have H3 := Lib.hid (fun W (hW : Below w.heap.size w W) => sameRecs_any B v3 u3 l3 m3 W (hv3.later hW) (hu3.later hW))
  obtain ⟨a1, p1, rfl⟩ := hv1.val
  obtain ⟨a2, p2, rfl⟩ := hv2.val
  obtain ⟨a3, p3, rfl⟩ := hv3.val
  obtain ⟨b1, q1, rfl⟩ := hu1.val
  obtain ⟨b2, q2, rfl⟩ := hu2.val
  obtain ⟨b3, q3, rfl⟩ := hu3.val
  clear hv1 hv2 hv3 hu1 hu2 hu3
  have hB : Below w.heap.size w ((w.alloc (.cells #[.int .i64 c1, .slice a1 l1.length p1, .slice a2 l2.length p2, .slice a3 l3.length p3, .int .i64 n1] 39)).alloc (.cells #[.int .i64 c2, .slice b1 m1.length q1, .slice b2 m2.length q2, .slice b3 m3.length q3, .int .i64 n2] 39)) :=
    ((Below.refl _ w).alloc (Nat.le_refl _) _).alloc (by simp) _
  generalize decide (l1 = m1) = d1 at *
  generalize decide (l2 = m2) = d2 at *
  generalize decide (l3 = m3) = d3 at *
  generalize l1.length = k1 at *
  generalize l2.length = k2 at *
  generalize l3.length = k3 at *
  generalize m1.length = j1 at *
  generalize m2.length = j2 at *
  generalize m3.length = j3 at *
  clear l1 l2 l3 m1 m2 m3
  by_cases hc : c1 = c2
  · by_cases hn : n1 = n2
    · have hcb : (c1 == c2) = true := by rw [beq_iff_eq]; exact hc
      have hnb : (n1 == n2) = true := by rw [beq_iff_eq]; exact hn
      rw [decide_eq_true hc, decide_eq_true hn]
      clear hc hn
      cases d1 with
      | false =>
        go_enter Tryz.func24, Tryz.ntmps24
        go_wp2_with fail
        refine (H1.out _ hB).mono ?_
        rintro e w1 ⟨rfl, x1, rfl⟩
        go_wp2
        go_ret
        exact ⟨rfl, below_dN hB _⟩
      | true =>
        cases d2 with
        | false =>
          go_enter Tryz.func24, Tryz.ntmps24
          go_wp2_with fail
          refine (H1.out _ hB).mono ?_
          rintro e w1 ⟨rfl, x1, rfl⟩
          go_wp2_with fail
          refine (H2.out _ (below_dN hB x1)).mono ?_
          rintro e w1 ⟨rfl, x2, rfl⟩
          go_wp2
          go_ret
          exact ⟨rfl, below_dN hB _⟩
        | true =>
          go_enter Tryz.func24, Tryz.ntmps24
          go_wp2_with fail
          refine (H1.out _ hB).mono ?_
          rintro e w1 ⟨rfl, x1, rfl⟩
          go_wp2_with fail
          refine (H2.out _ (below_dN hB x1)).mono ?_
          rintro e w1 ⟨rfl, x2, rfl⟩
          go_wp2_with fail
          refine (H3.out _ (below_dN hB (x1 + x2))).mono ?_
          rintro e w1 ⟨rfl, x3, rfl⟩
          go_wp2
          go_ret
          exact ⟨by simp, below_dN hB _⟩
    · have hcb : (c1 == c2) = true := by rw [beq_iff_eq]; exact hc
      have hnb : (n1 == n2) = false := beq_eq_false_iff_ne.2 hn
      rw [decide_eq_true hc, decide_eq_false hn]
      clear hc hn
      go_enter Tryz.func24, Tryz.ntmps24
      go_wp2
      go_ret
      exact ⟨rfl, hB⟩
  · have hcb : (c1 == c2) = false := beq_eq_false_iff_ne.2 hc
    rw [decide_eq_false hc]
    clear hc
    go_enter Tryz.func24, Tryz.ntmps24
    go_wp2
    go_ret
    exact ⟨rfl, hB⟩
end Go.Proofs.YtajllcbjgndcpaaGreatDoor
