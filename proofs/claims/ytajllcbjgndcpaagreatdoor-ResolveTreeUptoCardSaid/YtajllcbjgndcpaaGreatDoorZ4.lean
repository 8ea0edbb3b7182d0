/- WALKS: addresses: Print. -/
import Derived.Test.YtajllcbjgndcpaaGreatDoorZ3
namespace Go.Proofs.YtajllcbjgndcpaaGreatDoor
open Go.RowKit

def octs (a : Nat) : List Lb.Bs := [Zn.dec (a / 16777216 % 256), Zn.dec (a / 65536 % 256), Zn.dec (a / 256 % 256), Zn.dec (a % 256)]
theorem and_u32 (n : Nat) (hn : n < 4294967296) : bits .and .u32 (n : Int) 255 = ((n % 256 : Nat) : Int) := by
  have hx : n &&& 255 = n % 256 := Nat.and_two_pow_sub_one_eq_mod n 8
  show IntKind.u32.wrap ((BitVec.ofInt 32 (n : Int) &&& BitVec.ofInt 32 ((255 : Nat) : Int)).toNat : Int) = _
  rw [BitVec.toNat_and, ofInt_32 n hn, ofInt_32 255 (by decide), hx, IntKind.wrap_u32]
  omega
theorem and_div (a D : Nat) (ha : a < 4294967296) (h : (a : Int) / (D : Int) = ((a / D : Nat) : Int)) : wrap64 (bits .and .u32 ((a : Int) / (D : Int)) 255) = ((a / D % 256 : Nat) : Int) := by
  rw [h, and_u32 _ (Nat.lt_of_le_of_lt (Nat.div_le_self a D) ha)]
  unfold wrap64; omega
theorem libJoin_any (v : Value) (l : List Lb.Bs) (hl : l ≠ []) (w : World) (h : Strs w v l) (h2 : l.length ≤ 1000000) (hlen : (Lib.join l [46]).length ≤ 1000000) :
    Calls Tryz.prog 90 #[v, .string ⟨#[46]⟩] w fun e w' => e = .returned (.string ⟨(Lib.join l [46]).toArray⟩) ∧ Below w.heap.size w w' := by
  obtain ⟨a, cap, rfl, hcap, hm, hcell⟩ := h
  obtain ⟨b, o, rfl, hb, hc⟩ := hcell hl
  have emap : (l.map fun x => (⟨x.toArray⟩ : ByteArray)).map (·.data.toList) = l := by rw [List.map_map]; exact List.map_id' l
  have hJ := Tryz.strings_Join b o cap (l.map fun x => ⟨x.toArray⟩) ⟨#[46]⟩ w (by
    intro j x hx
    rw [List.getElem?_map, Option.map_eq_some_iff] at hx
    obtain ⟨y, hy, rfl⟩ := hx
    exact hc j y hy) hb (by rw [List.length_map]; omega) (by rw [List.length_map]; omega) (by rw [emap]; show (Lib.join l [46]).length ≤ _; omega)
  rw [List.length_map, emap] at hJ
  exact hJ.mono fun e w' ⟨he, hw⟩ => ⟨he, by first | exact hw | exact hw.1⟩
theorem dec_len (n : Nat) (h : n < 256) : (Zn.dec n).length ≤ 3 := by
  have : ∀ m, m < 256 → (Zn.dec m).length ≤ 3 := by
    intro m hm
    unfold Zn.dec Lib.itoa
    rw [if_neg (by omega), Int.toNat_natCast]
    unfold Lib.decDigits
    split
    · simp
    · unfold Lib.decDigits
      split
      · simp
      · unfold Lib.decDigits
        split
        · simp
        · omega
  exact this n h
theorem join_octs (a : Nat) : Lib.join (octs a) [46] = Zn.printA a := by
  unfold octs Zn.printA
  simp [Lib.join]
theorem octs_len (a : Nat) : (Zn.printA a).length ≤ 15 := by
  unfold Zn.printA
  have h1 := dec_len (a / 16777216 % 256) (Nat.mod_lt _ (by decide))
  have h2 := dec_len (a / 65536 % 256) (Nat.mod_lt _ (by decide))
  have h3 := dec_len (a / 256 % 256) (Nat.mod_lt _ (by decide))
  have h4 := dec_len (a % 256) (Nat.mod_lt _ (by decide))
  simp only [List.length_append, List.length_cons]
  omega
def PrintInv (a : Nat) (w0 : World) (k : Nat) (v : Value) (wr : World) : Prop := RowS w0.heap.size wr v ((octs a).take k) ∧ Below w0.heap.size w0 wr

set_option maxHeartbeats 1600000 in
set_option maxRecDepth 100000 in
theorem addrPrint_any (a : Nat) (ha : a < 4294967296) (w : World) (henv : EnvZ w) : Calls Tryz.prog 122 #[.int .u32 (a : Int)] w fun e w' => e = .returned (.string ⟨(Zn.printA a).toArray⟩) ∧ Below w.heap.size w w' := by
  have ha' : (a : Int) < 4294967296 := by omega
  have ha0 : (0 : Int) ≤ (a : Int) := by omega
  go_enter Tryz.func122, Tryz.ntmps122
  go_wp2
  go_loopw [3, 4] (fun v sh wr => ∃ k : Nat, k ≤ 4 ∧ sh = .int .i64 (24 - 8 * (k : Int)) ∧ PrintInv a w k v wr) (fun _ sh _ => (intOf sh + 8).toNat)
  case atStart => exact ⟨0, Nat.zero_le _, rfl, World.ownsRow_nil _ _ _ _, Below.refl _ _⟩
  case round =>
    obtain ⟨k, hk, rfl, hrow, hB⟩ := hrel
    have hcases : k = 0 ∨ k = 1 ∨ k = 2 ∨ k = 3 ∨ k = 4 := by omega
    rcases hcases with rfl | rfl | rfl | rfl | rfl
    · have hsum : wrap64 (bits .and .u32 ((a : Int) / 16777216) 255) = ((a / 16777216 % 256 : Nat) : Int) := by have := and_div a 16777216 ha (by omega); exact this
      have hlt : (a / 16777216 % 256) < 256 := Nat.mod_lt _ (by decide)
      have hle : ((octs a).take 0).length ≤ 4 := by simp [octs]
      have hoct : (octs a).take (0 + 1) = (octs a).take 0 ++ [Zn.dec (a / 16777216 % 256)] := rfl
      have HI := Lib.hid (fun W (hW : Below w.heap.size w W) => itoa_any ((a / 16777216 % 256 : Nat) : Int) (by omega) (by omega) W (henv.later hW))
      have Hoct := Lib.hid hoct
      clear hoct
      generalize (a / 16777216 % 256) = n at *
      obtain ⟨av, capv, rfl⟩ := ownsRow_val hrow
      go_wp2_with fail
      refine (HI.out _ hB).mono ?_
      rintro e w2 ⟨rfl, hB2⟩
      have hB3 := hB.trans (hB2.mono hB.size)
      have hrow3 := hrow.later hB2
      have hD : Lib.itoa (n : Int) = Zn.dec n := rfl
      rw [hD]
      clear hsum hD hB2
      obtain ⟨i0', hi0', hz0, hz1, hz2⟩ := info_parts' info9
      go_wp2_with (at_builtin; refine wpList_append_own _ rfl _ _ 52 rfl w.heap.size 9 i0' (.string ⟨#[]⟩) 1 16 Tryz.underlying52 hi0' hz0 hz1 hz2 rfl (by decide) _ _ _ rfl (hrow3.alloc _) ⟨w2.heap.size, 0, none⟩ 1 1 [.string ⟨(Zn.dec n).toArray⟩] rfl rfl (cell_one_new _ _ _) (by intro u hu; simp at hu; subst hu; rfl) (by unfold maxLen; omega) (by omega) (by have := hB3.size; simp; omega) ?_)
      intro v' w3 hown' hgrow' _
      have hg2 := (World.grownBy_alloc w2 (.cells #[.string ⟨(Zn.dec n).toArray⟩] 9) (Value.slice av ((octs a).take 0).length capv).ownBlock).trans hgrow'
      have hB5 := hB3.grown hg2 (by have := hB3.size; omega) (fun k hk => RowS.own hrow3 k hk)
      have hrow5 : RowS w.heap.size w3 v' ((octs a).take (0 + 1)) := by
        rw [Hoct.out]
        unfold RowS strV
        rw [List.map_append, List.length_append]
        exact hown'
      clear hown' hgrow' hg2 hB3 hrow3 hrow hB
      go_wp2
      exact ⟨⟨1, by omega, by go_num, hrow5, hB5⟩, by simp [intOf]⟩
    · have hsum : wrap64 (bits .and .u32 ((a : Int) / 65536) 255) = ((a / 65536 % 256 : Nat) : Int) := by have := and_div a 65536 ha (by omega); exact this
      have hlt : (a / 65536 % 256) < 256 := Nat.mod_lt _ (by decide)
      have hle : ((octs a).take 1).length ≤ 4 := by simp [octs]
      have hoct : (octs a).take (1 + 1) = (octs a).take 1 ++ [Zn.dec (a / 65536 % 256)] := rfl
      have HI := Lib.hid (fun W (hW : Below w.heap.size w W) => itoa_any ((a / 65536 % 256 : Nat) : Int) (by omega) (by omega) W (henv.later hW))
      have Hoct := Lib.hid hoct
      clear hoct
      generalize (a / 65536 % 256) = n at *
      obtain ⟨av, capv, rfl⟩ := ownsRow_val hrow
      go_wp2_with fail
      refine (HI.out _ hB).mono ?_
      rintro e w2 ⟨rfl, hB2⟩
      have hB3 := hB.trans (hB2.mono hB.size)
      have hrow3 := hrow.later hB2
      have hD : Lib.itoa (n : Int) = Zn.dec n := rfl
      rw [hD]
      clear hsum hD hB2
      obtain ⟨i0', hi0', hz0, hz1, hz2⟩ := info_parts' info9
      go_wp2_with (at_builtin; refine wpList_append_own _ rfl _ _ 52 rfl w.heap.size 9 i0' (.string ⟨#[]⟩) 1 16 Tryz.underlying52 hi0' hz0 hz1 hz2 rfl (by decide) _ _ _ rfl (hrow3.alloc _) ⟨w2.heap.size, 0, none⟩ 1 1 [.string ⟨(Zn.dec n).toArray⟩] rfl rfl (cell_one_new _ _ _) (by intro u hu; simp at hu; subst hu; rfl) (by unfold maxLen; omega) (by omega) (by have := hB3.size; simp; omega) ?_)
      intro v' w3 hown' hgrow' _
      have hg2 := (World.grownBy_alloc w2 (.cells #[.string ⟨(Zn.dec n).toArray⟩] 9) (Value.slice av ((octs a).take 1).length capv).ownBlock).trans hgrow'
      have hB5 := hB3.grown hg2 (by have := hB3.size; omega) (fun k hk => RowS.own hrow3 k hk)
      have hrow5 : RowS w.heap.size w3 v' ((octs a).take (1 + 1)) := by
        rw [Hoct.out]
        unfold RowS strV
        rw [List.map_append, List.length_append]
        exact hown'
      clear hown' hgrow' hg2 hB3 hrow3 hrow hB
      go_wp2
      exact ⟨⟨2, by omega, by go_num, hrow5, hB5⟩, by simp [intOf]⟩
    · have hsum : wrap64 (bits .and .u32 ((a : Int) / 256) 255) = ((a / 256 % 256 : Nat) : Int) := by have := and_div a 256 ha (by omega); exact this
      have hlt : (a / 256 % 256) < 256 := Nat.mod_lt _ (by decide)
      have hle : ((octs a).take 2).length ≤ 4 := by simp [octs]
      have hoct : (octs a).take (2 + 1) = (octs a).take 2 ++ [Zn.dec (a / 256 % 256)] := rfl
      have HI := Lib.hid (fun W (hW : Below w.heap.size w W) => itoa_any ((a / 256 % 256 : Nat) : Int) (by omega) (by omega) W (henv.later hW))
      have Hoct := Lib.hid hoct
      clear hoct
      generalize (a / 256 % 256) = n at *
      obtain ⟨av, capv, rfl⟩ := ownsRow_val hrow
      go_wp2_with fail
      refine (HI.out _ hB).mono ?_
      rintro e w2 ⟨rfl, hB2⟩
      have hB3 := hB.trans (hB2.mono hB.size)
      have hrow3 := hrow.later hB2
      have hD : Lib.itoa (n : Int) = Zn.dec n := rfl
      rw [hD]
      clear hsum hD hB2
      obtain ⟨i0', hi0', hz0, hz1, hz2⟩ := info_parts' info9
      go_wp2_with (at_builtin; refine wpList_append_own _ rfl _ _ 52 rfl w.heap.size 9 i0' (.string ⟨#[]⟩) 1 16 Tryz.underlying52 hi0' hz0 hz1 hz2 rfl (by decide) _ _ _ rfl (hrow3.alloc _) ⟨w2.heap.size, 0, none⟩ 1 1 [.string ⟨(Zn.dec n).toArray⟩] rfl rfl (cell_one_new _ _ _) (by intro u hu; simp at hu; subst hu; rfl) (by unfold maxLen; omega) (by omega) (by have := hB3.size; simp; omega) ?_)
      intro v' w3 hown' hgrow' _
      have hg2 := (World.grownBy_alloc w2 (.cells #[.string ⟨(Zn.dec n).toArray⟩] 9) (Value.slice av ((octs a).take 2).length capv).ownBlock).trans hgrow'
      have hB5 := hB3.grown hg2 (by have := hB3.size; omega) (fun k hk => RowS.own hrow3 k hk)
      have hrow5 : RowS w.heap.size w3 v' ((octs a).take (2 + 1)) := by
        rw [Hoct.out]
        unfold RowS strV
        rw [List.map_append, List.length_append]
        exact hown'
      clear hown' hgrow' hg2 hB3 hrow3 hrow hB
      go_wp2
      exact ⟨⟨3, by omega, by go_num, hrow5, hB5⟩, by simp [intOf]⟩
    · have hsum : wrap64 (bits .and .u32 ((a : Int)) 255) = ((a % 256 : Nat) : Int) := by rw [and_u32 a ha]; unfold wrap64; omega
      have hlt : (a % 256) < 256 := Nat.mod_lt _ (by decide)
      have hle : ((octs a).take 3).length ≤ 4 := by simp [octs]
      have hoct : (octs a).take (3 + 1) = (octs a).take 3 ++ [Zn.dec (a % 256)] := rfl
      have HI := Lib.hid (fun W (hW : Below w.heap.size w W) => itoa_any ((a % 256 : Nat) : Int) (by omega) (by omega) W (henv.later hW))
      have Hoct := Lib.hid hoct
      clear hoct
      generalize (a % 256) = n at *
      obtain ⟨av, capv, rfl⟩ := ownsRow_val hrow
      go_wp2_with fail
      refine (HI.out _ hB).mono ?_
      rintro e w2 ⟨rfl, hB2⟩
      have hB3 := hB.trans (hB2.mono hB.size)
      have hrow3 := hrow.later hB2
      have hD : Lib.itoa (n : Int) = Zn.dec n := rfl
      rw [hD]
      clear hsum hD hB2
      obtain ⟨i0', hi0', hz0, hz1, hz2⟩ := info_parts' info9
      go_wp2_with (at_builtin; refine wpList_append_own _ rfl _ _ 52 rfl w.heap.size 9 i0' (.string ⟨#[]⟩) 1 16 Tryz.underlying52 hi0' hz0 hz1 hz2 rfl (by decide) _ _ _ rfl (hrow3.alloc _) ⟨w2.heap.size, 0, none⟩ 1 1 [.string ⟨(Zn.dec n).toArray⟩] rfl rfl (cell_one_new _ _ _) (by intro u hu; simp at hu; subst hu; rfl) (by unfold maxLen; omega) (by omega) (by have := hB3.size; simp; omega) ?_)
      intro v' w3 hown' hgrow' _
      have hg2 := (World.grownBy_alloc w2 (.cells #[.string ⟨(Zn.dec n).toArray⟩] 9) (Value.slice av ((octs a).take 3).length capv).ownBlock).trans hgrow'
      have hB5 := hB3.grown hg2 (by have := hB3.size; omega) (fun k hk => RowS.own hrow3 k hk)
      have hrow5 : RowS w.heap.size w3 v' ((octs a).take (3 + 1)) := by
        rw [Hoct.out]
        unfold RowS strV
        rw [List.map_append, List.length_append]
        exact hown'
      clear hown' hgrow' hg2 hB3 hrow3 hrow hB
      go_wp2
      exact ⟨⟨4, by omega, by go_num, hrow5, hB5⟩, by simp [intOf]⟩
    · rw [show (octs a).take 4 = octs a from rfl] at hrow
      obtain ⟨av, capv, rfl⟩ := ownsRow_val hrow
      have hS := RowS.strs hrow
      have HJ := Lib.hid (libJoin_any _ (octs a) (by simp [octs]) wr hS (by simp [octs]) (by rw [join_octs]; have := octs_len a; omega))
      rw [join_octs] at HJ
      clear hrow hS
      go_wp2_with fail
      refine HJ.out.mono ?_
      rintro e w2 ⟨rfl, hB2⟩
      have hB3 := hB.trans (hB2.mono hB.size)
      clear hB hB2
      go_wp2
      go_ret
      exact ⟨rfl, hB3⟩
end Go.Proofs.YtajllcbjgndcpaaGreatDoor
