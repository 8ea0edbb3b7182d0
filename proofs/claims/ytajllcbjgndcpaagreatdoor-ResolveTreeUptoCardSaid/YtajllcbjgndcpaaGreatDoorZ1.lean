/- WALKS: the environment of zones; cmp.Or, zone.number, the test of texts. -/
import Derived.Test.YtajllcbjgndcpaaGreatDoorR0
import Derived.Test.YtajllcbjgndcpaaGreatDoorZn
import Derived.Lib.LaidTab
import Derived.Lib.AtoiErrMem
import Derived.Lib.AppendIntMem
import Derived.LaidEql
import Derived.Deep.RegionHeld3
namespace Go.Proofs.YtajllcbjgndcpaaGreatDoor
open Go.RowKit

def kindsL : List Lb.Bs := [[], [97, 100, 100, 114], [97, 108, 105, 97, 115], [115, 101, 114, 118, 101], [116, 101, 120, 116], [115, 116, 97, 114, 116]]
/-- What the zones' code reads of the package's variables. -/
structure EnvZ (w : World) : Prop where
  env : Env w
  tab : Lib.TabIs Tryz.prog w "internal/strconv.uint64pow10" .u64 Lib.pow10Tab
  syn : ∃ tp p, w.var? Tryz.prog "strconv.ErrSyntax" = some #[.iface tp p]
  rng : ∃ tp p, w.var? Tryz.prog "strconv.ErrRange" = some #[.iface tp p]
theorem var_later {w w' : World} {n : String} {cs : Array Value} (h : w.var? Tryz.prog n = some cs) (hb : Below w.heap.size w w') : w'.var? Tryz.prog n = some cs := by
  unfold World.var? at h ⊢
  cases hg : Tryz.prog.globalNamed n with
  | none => rw [hg] at h; cases h
  | some g =>
    rw [hg] at h
    simp only [Option.bind_some] at h ⊢
    have hlt : g < w.heap.size := by
      rcases Nat.lt_or_ge g w.heap.size with h1 | h1
      · exact h1
      · rw [Array.getElem?_eq_none h1] at h; cases h
    rw [hb.block g hlt]; exact h
theorem EnvZ.later {w w' : World} (h : EnvZ w) (hb : Below w.heap.size w w') : EnvZ w' := by
  obtain ⟨t1, p1, h1⟩ := h.syn
  obtain ⟨t2, p2, h2⟩ := h.rng
  exact ⟨h.env.later hb, var_later h.tab hb, ⟨t1, p1, var_later h1 hb⟩, ⟨t2, p2, var_later h2 hb⟩⟩
/-- And the names of the kinds, where they are read. -/
def KindsIn (w : World) : Prop := ∀ i s, kindsL[i]? = some s → w.cell? ⟨0, i, none⟩ = some (.string ⟨s.toArray⟩)
theorem KindsIn.later {w w' : World} (h : KindsIn w) (hb : Below w.heap.size w w') : KindsIn w' := fun i s hs => (hb.cell (World.block_lt_of_cell? w _ (h i s hs))).trans (h i s hs)

theorem or3_first {a b c : Int} {k : Nat} {x : Int} (hx : [a, b, c][k]? = some x) (hn : x ≠ 0) (hp : ∀ j, j < k → [a, b, c][j]? = some 0) : Zn.or3 a b c = x := by
  unfold Zn.or3
  rcases k with _ | _ | _ | k
  · simp at hx; subst hx; rw [if_pos hn]
  · have h0 := hp 0 (by omega); simp at hx h0; subst hx h0; rw [if_neg (by decide), if_pos hn]
  · have h0 := hp 0 (by omega); have h1 := hp 1 (by omega); simp at hx h0 h1; subst hx h0 h1; rw [if_neg (by decide), if_neg (by decide)]
  · simp at hx
theorem or3_none {a b c : Int} (hp : ∀ j, j < 3 → [a, b, c][j]? = some 0) : Zn.or3 a b c = 0 := by
  have h0 := hp 0 (by omega); have h1 := hp 1 (by omega); have h2 := hp 2 (by omega)
  simp at h0 h1 h2
  subst h0 h1 h2
  rfl
/-- A row of three numbers in a block of its own. -/
theorem or_any (a b c : Int) (g : Nat) (w : World) (h : ∀ j x, [a, b, c][j]? = some x → w.cell? ⟨g, j, none⟩ = some (.int .i64 x)) :
    Calls Tryz.prog 81 #[.slice (some ⟨g, 0, none⟩) 3 3] w fun e w' => e = .returned (.int .i64 (Zn.or3 a b c)) ∧ w = w' := by
  have H := Lib.hid h
  clear h
  obtain ⟨L, hL⟩ : ∃ L, [a, b, c] = L := ⟨_, rfl⟩
  have hlen : L.length = 3 := by rw [← hL]; rfl
  have HL := Lib.hid hL
  rw [hL] at H
  clear hL
  have Hlen := Lib.hid hlen
  clear hlen
  go_enter Tryz.func81, Tryz.ntmps81
  go_wp2
  go_loop [8] (fun i => ∃ k : Nat, k ≤ 3 ∧ i = .int .i64 k ∧ Hid (∀ j, j < k → L[j]? = some 0)) (fun i => 3 - (intOf i).toNat)
  case atStart => exact ⟨0, Nat.zero_le _, rfl, fun j hj => absurd hj (Nat.not_lt_zero j)⟩
  case round =>
    obtain ⟨k, hk, rfl, HP⟩ := hrel
    by_cases hlt : k < 3
    · obtain ⟨x, hx⟩ : ∃ x, L[k]? = some x := ⟨L[k]'(by rw [Hlen.out]; exact hlt), List.getElem?_eq_getElem _⟩
      have hc := H.out k x hx
      have Hx := Lib.hid hx
      have hk0 : (0 : Int) ≤ (k : Int) := by omega
      have hk1 : (k : Int) < 3 := by omega
      clear hx
      by_cases hz : x = 0
      · have hzb : (x == 0) = true := by rw [beq_iff_eq]; exact hz
        have hzb2 : (x != 0) = false := by rw [bne, hzb]; rfl
        have HP2 : Hid (∀ j, j < k + 1 → L[j]? = some 0) := by
          intro j hj
          by_cases e : j = k
          · rw [e, Hx.out, hz]
          · exact HP.out j (by omega)
        clear hz
        go_wp2
        go_round
        case rel => exact ⟨k + 1, by omega, by go_num, HP2⟩
        case measure => simp [intOf]; omega
      · have hzb : (x == 0) = false := beq_eq_false_iff_ne.2 hz
        have hzb2 : (x != 0) = true := by rw [bne, hzb]; rfl
        have hr := or3_first (a := a) (b := b) (c := c) (k := k) (x := x) (by rw [HL.out]; exact Hx.out) hz (by rw [HL.out]; exact HP.out)
        have Hr := Lib.hid hr
        clear hz hr
        go_wp2
        go_ret
        exact ⟨by rw [Hr.out]; rfl, rfl⟩
    · obtain rfl : k = 3 := by omega
      have hr := or3_none (a := a) (b := b) (c := c) (by rw [HL.out]; exact HP.out)
      have Hr := Lib.hid hr
      clear hr
      go_wp2
      go_ret
      exact ⟨by rw [Hr.out]; rfl, rfl⟩

/-- What the test of a text says of a rune. -/
def unseen (x : Nat) : Bool := decide (x < 33) || decide (126 < x)
set_option maxHeartbeats 800000 in
theorem unseen_any (x : Nat) (w : World) : Calls Tryz.prog 123 #[.int .i32 (x : Int)] w fun e w' => e = .returned (.bool (unseen x)) ∧ w' = w := by
  unfold unseen
  by_cases h1 : x < 33
  · go_enter Tryz.func123, Tryz.ntmps123
    go_wp2
    go_ret
    refine ⟨ret_bool ?_, rfl⟩
    first | rfl | (simp; done) | (simp; omega) | (rw [Bool.eq_iff_iff]; simp; omega)
  · go_enter Tryz.func123, Tryz.ntmps123
    go_wp2
    go_ret
    refine ⟨ret_bool ?_, rfl⟩
    first | rfl | (simp; done) | (simp; omega) | (rw [Bool.eq_iff_iff]; simp; omega)
theorem enters_unseen : ∀ args w, (callFunc 123 args).run Tryz.prog w = .ok (.enter 123 args) w := fun args w => enters_of Tryz.func123 (by kernel_rfl) rfl args w
theorem seen_rune (c : UInt8) : unseen c.toNat = !Zn.seen c := by
  rw [Bool.eq_iff_iff]
  simp [unseen, Zn.seen, UInt8.le_iff_toNat_le]
theorem contains_unseen (s : ByteArray) (w : World) :
    Calls Tryz.prog 88 #[.string s, .func (.func 123) #[] #[]] w fun e w' => e = .returned (.bool (!s.data.toList.all Zn.seen)) ∧ Below w.heap.size w w' := by
  have h := Tryz.strings_ContainsFunc 123 #[] enters_unseen unseen s w (fun W x _ => (unseen_any x W).mono fun e W' ⟨he, hw⟩ => ⟨he, 0, hw⟩)
  have h2 := idx_all unseen Zn.seen (fun c _ => seen_rune c) (by intro x hx; simp [unseen]; omega) (by intro c hc; have := seen_rune c; rw [show unseen c.toNat = true from by simp [unseen]; omega] at this; simpa using this.symm) s s.size 0 (by omega)
  unfold Lib.idxFunc at h
  rw [h2, List.drop_zero] at h
  exact h

theorem atoi_ok (s : ByteArray) (n : Int) (h : Lib.atoiAll s.data.toList = .ok n) (w : World) (hs : s.size ≤ 281474976710656) : Calls Tryz.prog 103 #[.string s] w fun e w' => e = .returned (.tuple #[.int .i64 n, .nilIface]) ∧ Below w.heap.size w w' :=
  (Tryz.strconv_Atoi_ok s (by omega) n h w).mono fun e w' ⟨he, hw⟩ => ⟨he, by
    rcases hw with rfl | ⟨t, rfl⟩
    · exact Below.refl _ _
    · exact Lib.bytesWorld_below _ _ _⟩
theorem atoi_bad (s : ByteArray) (v : Int) (h : Zn.isSyn (Lib.atoiAll s.data.toList) = true ∧ v = 0 ∨ Lib.atoiAll s.data.toList = .range ∧ v = Lib.atoiSat s.data.toList) (w : World) (henv : EnvZ w) (hs : s.size ≤ 281474976710656) :
    Calls Tryz.prog 103 #[.string s] w fun e w' => ∃ N, e = .returned (.tuple #[.int .i64 v, .iface 204 (.pointer (some ⟨N, 0, none⟩))]) ∧ Below w.heap.size w w' := by
  rcases h with ⟨h, rfl⟩ | ⟨h, rfl⟩
  · obtain ⟨tp, p, hv⟩ := henv.syn
    rcases hr : Lib.atoiAll s.data.toList with n | _ | _
    · rw [hr] at h; cases h
    · exact (show Calls Tryz.prog 103 #[.string s] w _ from Any.strconv_Atoi_syntax_var Tryz.laysC172 s hs hr tp p w hv).mono fun e w' ⟨N, he, _, _, hb⟩ => ⟨N, he, hb⟩
    · rw [hr] at h; cases h
  · obtain ⟨tp, p, hv⟩ := henv.rng
    exact (Tryz.strconv_Atoi_range_var s hs h tp p w hv).mono fun e w' ⟨N, he, _, _, hb⟩ => ⟨N, he, hb⟩
theorem itoa_any (n : Int) (h0 : -9223372036854775808 ≤ n) (h1 : n ≤ 9223372036854775807) (w : World) (henv : EnvZ w) : Calls Tryz.prog 47 #[.int .i64 n] w fun e w' => e = .returned (.string ⟨(Lib.itoa n).toArray⟩) ∧ Below w.heap.size w w' :=
  (Tryz.strconv_Itoa n h0 h1 w henv.tab).mono fun _ _ ⟨he, k, os, hw⟩ => ⟨he, hw ▸ Lib.below_grow _ w (Nat.le_refl _) k os⟩
def NumEnd (s : Lb.Bs) (most : Int) (w0 : World) (e : Ending) (w' : World) : Prop := e = .returned (.tuple #[.int .i64 (Zn.num s most).1, .bool (Zn.num s most).2]) ∧ Below w0.heap.size w0 w'
theorem num_bad {s : Lb.Bs} {v most : Int} (h : Zn.isSyn (Lib.atoiAll s) = true ∧ v = 0 ∨ Lib.atoiAll s = .range ∧ v = Lib.atoiSat s) : Zn.num s most = (v, false) := by
  unfold Zn.num
  rcases h with ⟨h, rfl⟩ | ⟨h, rfl⟩
  · rcases hr : Lib.atoiAll s with n | _ | _
    · rw [hr] at h; cases h
    · rfl
    · rw [hr] at h; cases h
  · rw [h]
set_option maxHeartbeats 1600000 in
theorem number_bad (s : ByteArray) (most v : Int) (h : Zn.isSyn (Lib.atoiAll s.data.toList) = true ∧ v = 0 ∨ Lib.atoiAll s.data.toList = .range ∧ v = Lib.atoiSat s.data.toList) (w : World) (henv : EnvZ w) (hs : s.size ≤ 281474976710656) :
    Calls Tryz.prog 100 #[.string s, .int .i64 most] w (NumEnd s.data.toList most w) := by
  unfold NumEnd
  rw [num_bad h]
  have H := Lib.hid (atoi_bad s v h w henv hs)
  clear h
  go_enter Tryz.func100, Tryz.ntmps100
  go_wp2_with fail
  refine H.out.mono ?_
  rintro e w1 ⟨N, rfl, hB⟩
  go_wp2
  go_ret2
  exact ⟨rfl, hB⟩
set_option maxHeartbeats 1600000 in
theorem number_any (s : ByteArray) (most : Int) (w : World) (henv : EnvZ w) (hs : s.size ≤ 281474976710656) (hm : most ≤ 9223372036854775807) :
    Calls Tryz.prog 100 #[.string s, .int .i64 most] w (NumEnd s.data.toList most w) := by
  rcases hA : Lib.atoiAll s.data.toList with n | _ | _
  · have H := Lib.hid (atoi_ok s n hA w hs)
    have HI := Lib.hid (fun (h0 : 0 ≤ n) (h1 : n ≤ most) W (hW : Below w.heap.size w W) => itoa_any n (by omega) (by omega) W (henv.later hW))
    have hN : Zn.num s.data.toList most = (n, decide (0 ≤ n) && decide (n ≤ most) && decide (Lib.itoa n = s.data.toList)) := by unfold Zn.num; rw [hA]
    unfold NumEnd
    rw [hN]
    clear hA hN
    by_cases h0 : 0 ≤ n
    · by_cases h1 : n ≤ most
      · have HJ := Lib.hid (HI.out h0 h1)
        have hE : (Lib.itoa n == s.toList) = decide (Lib.itoa n = s.data.toList) := by rw [ByteArray.toList_eq, Bool.eq_iff_iff]; simp
        rw [decide_eq_true h0, decide_eq_true h1, Bool.true_and, Bool.true_and]
        have HE := Lib.hid hE
        clear HI hE
        go_enter Tryz.func100, Tryz.ntmps100
        go_wp2_with fail
        refine H.out.mono ?_
        rintro e w1 ⟨rfl, hB⟩
        go_wp2_with fail
        refine (HJ.out _ hB).mono ?_
        rintro e w2 ⟨rfl, hB2⟩
        go_wp2
        go_ret2
        exact ⟨by rw [← HE.out]; rfl, hB.trans (hB2.mono hB.size)⟩
      · rw [decide_eq_false h1, Bool.and_false, Bool.false_and]
        clear HI
        go_enter Tryz.func100, Tryz.ntmps100
        go_wp2_with fail
        refine H.out.mono ?_
        rintro e w1 ⟨rfl, hB⟩
        go_wp2
        go_ret2
        exact ⟨rfl, hB⟩
    · rw [decide_eq_false h0, Bool.false_and, Bool.false_and]
      clear HI
      go_enter Tryz.func100, Tryz.ntmps100
      go_wp2_with fail
      refine H.out.mono ?_
      rintro e w1 ⟨rfl, hB⟩
      go_wp2
      go_ret2
      exact ⟨rfl, hB⟩
  · exact number_bad s most 0 (.inl ⟨by rw [hA]; rfl, rfl⟩) w henv hs
  · exact number_bad s most _ (.inr ⟨hA, rfl⟩) w henv hs
end Go.Proofs.YtajllcbjgndcpaaGreatDoor
