/- WALKS: addresses: Parse. -/
import Derived.Test.YtajllcbjgndcpaaGreatDoorZ2
import Derived.Laws.BitsAllLaws
import Derived.Laws.BitsLemmas
namespace Go.Proofs.YtajllcbjgndcpaaGreatDoor
open Go.RowKit

theorem ofInt_64 (a : Nat) (ha : a < 9223372036854775808) : (BitVec.ofInt 64 (a : Int)).toNat = a := by
  rw [BitVec.ofInt_natCast, BitVec.toNat_ofNat]; exact Nat.mod_eq_of_lt (by omega)
theorem and_255 (n : Nat) (hn : n < 9223372036854775808) : bits .and .i64 (n : Int) 255 = ((n % 256 : Nat) : Int) := by
  have hx : n &&& 255 = n % 256 := Nat.and_two_pow_sub_one_eq_mod n 8
  show IntKind.i64.wrap ((BitVec.ofInt 64 (n : Int) &&& BitVec.ofInt 64 ((255 : Nat) : Int)).toNat : Int) = _
  rw [BitVec.toNat_and, ofInt_64 n hn, ofInt_64 255 (by decide), hx, IntKind.wrap_i64]
  omega
theorem ofInt_32 (a : Nat) (ha : a < 4294967296) : (BitVec.ofInt 32 (a : Int)).toNat = a := by
  rw [BitVec.ofInt_natCast, BitVec.toNat_ofNat]; exact Nat.mod_eq_of_lt (by omega)
theorem or_u32 (a b : Nat) (ha : a < 4294967296) (hb : b < 4294967296) : bits .or .u32 (a : Int) (b : Int) = ((a ||| b : Nat) : Int) := by
  have hx : a ||| b < 2 ^ 32 := Nat.or_lt_two_pow (by omega) (by omega)
  show IntKind.u32.wrap ((BitVec.ofInt 32 (a : Int) ||| BitVec.ofInt 32 (b : Int)).toNat : Int) = _
  rw [BitVec.toNat_or, ofInt_32 a ha, ofInt_32 b hb, IntKind.wrap_u32]
  omega
theorem addr_bits (out n : Nat) (hn : n < 9223372036854775808) : bits .or .u32 ((out : Int) * 256 % 4294967296) (bits .and .i64 (n : Int) 255 % 4294967296) = (((out * 256) % 4294967296 + n % 256 : Nat) : Int) := by
  rw [and_255 n hn]
  have e1 : (out : Int) * 256 % 4294967296 = (((out * 256) % 4294967296 : Nat) : Int) := by omega
  have e2 : ((n % 256 : Nat) : Int) % 4294967296 = ((n % 256 : Nat) : Int) := by omega
  rw [e1, e2, or_u32 _ _ (Nat.mod_lt _ (by decide)) (by omega)]
  have e3 : (out * 256) % 4294967296 = 2 ^ 8 * (out % 16777216) := by omega
  rw [e3, Nat.two_pow_add_eq_or_of_lt (by omega)]
theorem partsA_step {out n : Nat} {large : Bool} {x : Lb.Bs} {r : List Lb.Bs} (h : Zn.numA x = some n) : Zn.partsA out large (x :: r) = Zn.partsA ((out * 256) % 4294967296 + n % 256) (large || decide (255 < n)) r := by
  show (match Zn.numA x with | none => none | some n => _) = _
  rw [h]
theorem partsA_bad {out : Nat} {large : Bool} {x : Lb.Bs} {r : List Lb.Bs} (h : Zn.numA x = none) : Zn.partsA out large (x :: r) = none := by
  show (match Zn.numA x with | none => none | some n => _) = _
  rw [h]
theorem numA_lt {x : Lb.Bs} {n : Nat} (h : Zn.numA x = some n) : n < 1000 := by
  unfold Zn.numA at h
  split at h
  · cases h
  · rename_i hc
    split at h
    · rename_i hd
      injection h with h
      have hl : x.length ≤ 3 := Nat.le_of_not_lt fun e => hc (.inr (.inl e))
      have := val_lt x.length x rfl hd
      have h3 : x.length = 0 ∨ x.length = 1 ∨ x.length = 2 ∨ x.length = 3 := by omega
      rcases h3 with e | e | e | e <;> rw [e] at this <;> omega
    · cases h
theorem drop_cons {L : List Lb.Bs} {k : Nat} {x : Lb.Bs} (h : L[k]? = some x) : L.drop k = x :: L.drop (k + 1) := by
  obtain ⟨h1, rfl⟩ := List.getElem?_eq_some_iff.1 h
  exact List.drop_eq_getElem_cons h1
/-- What Parse's loop carries. -/
def PartsInv (L : List Lb.Bs) (w0 : World) (k out : Nat) (large : Bool) (wr : World) : Prop :=
  Zn.partsA 0 false L = Zn.partsA out large (L.drop k) ∧ out < 4294967296 ∧ Below w0.heap.size w0 wr
def ParseEnd (s : Lb.Bs) (w0 : World) (e : Ending) (w' : World) : Prop := e = .returned (.tuple #[.int .u32 ((Zn.parseA s).1 : Int), .int .i64 (Zn.parseA s).2]) ∧ Below w0.heap.size w0 w'

set_option maxHeartbeats 1600000 in
set_option maxRecDepth 100000 in
theorem addrParse_any (s : ByteArray) (w : World) (henv : Env w) (hs : s.size < 4294967281) : Calls Tryz.prog 121 #[.string s] w (ParseEnd s.data.toList w) := by
  have H := Lib.hid (libSplit_any s w henv hs)
  go_enter Tryz.func121, Tryz.ntmps121
  go_wp2_with fail
  refine H.out.mono ?_
  rintro e w1 ⟨v, rfl, hO, hB⟩
  have hS := hO.strs
  obtain ⟨L, hL⟩ : ∃ L, Lb.cut s.data.toList = L := ⟨_, rfl⟩
  have HL := Lib.hid hL
  rw [hL] at hS
  obtain ⟨a, cap, rfl, hc, hm, hcell⟩ := hS
  unfold maxLen at hm
  have HB := Lib.hid hB
  clear hO hB hL
  by_cases h4 : L.length = 4
  · rw [h4]
    obtain ⟨b, o, rfl, hb, hcl⟩ := hcell (by rintro rfl; simp at h4)
    have HCL := Lib.hid hcl
    have H4 := Lib.hid h4
    clear hcell hcl h4 hc
    go_wp2
    go_loopw [5, 6, 18] (fun ov lv iv wr => ∃ (k out : Nat) (large : Bool), k ≤ 4 ∧ iv = .int .i64 k ∧ ov = .int .u32 (out : Int) ∧ lv = .bool large ∧ Hid (PartsInv L w1 k out large wr)) (fun _ _ i _ => 4 - (intOf i).toNat)
    case atStart => exact ⟨0, 0, false, Nat.zero_le _, rfl, rfl, rfl, ⟨rfl, by decide, Below.refl _ _⟩⟩
    case round =>
      obtain ⟨k, out, large, hk, rfl, rfl, rfl, HI⟩ := hrel
      by_cases hlt : k < 4
      · obtain ⟨x, hx⟩ : ∃ x, L[k]? = some x := ⟨L[k]'(by rw [H4.out]; exact hlt), List.getElem?_eq_getElem _⟩
        have hc : wr.cell? ⟨b, o + k, none⟩ = some (.string ⟨x.toArray⟩) := (HI.out.2.2.cell (p := ⟨b, o + k, none⟩) hb).trans (HCL.out k x hx)
        have hk0 : (0 : Int) ≤ (k : Int) := by omega
        have hk1 : (k : Int) < 4 := by omega
        have hout := HI.out.2.1
        have Hx := Lib.hid hx
        have HN := Lib.hid (addrNum_any ⟨x.toArray⟩ wr)
        clear hx
        cases hn : Zn.numA x with
        | none =>
          have hv : numV (⟨x.toArray⟩ : ByteArray).data.toList = .tuple #[.int .i64 0, .bool false] := by show numV x = _; unfold numV; rw [hn]
          unfold AddrNum at HN
          rw [hv] at HN
          have hp : Zn.parseA s.data.toList = (0, 11) := by
            unfold Zn.parseA
            rw [HL.out, if_neg (by rw [H4.out]; decide), HI.out.1, drop_cons Hx.out, partsA_bad hn]
          have HPA := Lib.hid hp
          clear hn hv hp
          go_wp2_with fail
          refine HN.out.mono ?_
          rintro e w2 ⟨rfl, hB2⟩
          have HB2 := Lib.hid (HB.out.trans ((HI.out.2.2.trans (hB2.mono HI.out.2.2.size)).mono HB.out.size))
          clear hB2
          go_wp2
          go_ret2
          exact ⟨by rw [HPA.out]; rfl, HB2.out⟩
        | some n =>
          have hv : numV (⟨x.toArray⟩ : ByteArray).data.toList = .tuple #[.int .i64 (n : Int), .bool true] := by show numV x = _; unfold numV; rw [hn]
          unfold AddrNum at HN
          rw [hv] at HN
          have hn9 := numA_lt hn
          have Hn := Lib.hid hn
          clear hn hv
          go_wp2_with fail
          refine HN.out.mono ?_
          rintro e w2 ⟨rfl, hB2⟩
          have HI2 : ∀ lg, (large || decide (255 < n)) = lg → PartsInv L w1 (k + 1) ((out * 256) % 4294967296 + n % 256) lg w2 := by
            rintro lg rfl
            refine ⟨?_, by omega, HI.out.2.2.trans (hB2.mono HI.out.2.2.size)⟩
            rw [HI.out.1, drop_cons Hx.out, partsA_step Hn.out]
          have HI2 := Lib.hid HI2
          clear hB2
          cases large with
          | true =>
            go_wp2
            refine ⟨⟨k + 1, (out * 256) % 4294967296 + n % 256, true, by omega, by go_num, ?_, rfl, HI2.out true (by simp)⟩, by simp [intOf]; omega⟩
            rw [addr_bits out n (by omega)]
          | false =>
            go_wp2
            refine ⟨⟨k + 1, (out * 256) % 4294967296 + n % 256, decide (255 < n), by omega, by go_num, ?_, ?_, HI2.out _ (by simp)⟩, by simp [intOf]; omega⟩
            · rw [addr_bits out n (by omega)]
            · rw [Value.bool.injEq, decide_eq_decide]; omega
      · obtain rfl : k = 4 := by omega
        have hpa := HI.out.1
        rw [List.drop_eq_nil_of_le (by rw [H4.out]; exact Nat.le_refl _)] at hpa
        have HB2 := Lib.hid (HB.out.trans (HI.out.2.2.mono HB.out.size))
        cases large with
        | true =>
          have hp : Zn.parseA s.data.toList = (0, 10) := by
            unfold Zn.parseA
            rw [HL.out, if_neg (by rw [H4.out]; decide), hpa]; rfl
          have HPA := Lib.hid hp
          clear hp hpa
          go_wp2
          go_ret2
          exact ⟨by rw [HPA.out]; rfl, HB2.out⟩
        | false =>
          have hp : Zn.parseA s.data.toList = (out, 0) := by
            unfold Zn.parseA
            rw [HL.out, if_neg (by rw [H4.out]; decide), hpa]; rfl
          have HPA := Lib.hid hp
          clear hp hpa
          go_wp2
          go_ret2
          exact ⟨by rw [HPA.out]; rfl, HB2.out⟩
  · have hp : Zn.parseA s.data.toList = (0, 11) := by
      unfold Zn.parseA
      rw [HL.out, if_pos h4]
    have HPA := Lib.hid hp
    have h5 : ((L.length : Int) == 4) = false := by rw [beq_eq_false_iff_ne]; omega
    clear hp h4
    go_wp2
    go_ret2
    exact ⟨by rw [HPA.out]; rfl, HB.out⟩
end Go.Proofs.YtajllcbjgndcpaaGreatDoor
