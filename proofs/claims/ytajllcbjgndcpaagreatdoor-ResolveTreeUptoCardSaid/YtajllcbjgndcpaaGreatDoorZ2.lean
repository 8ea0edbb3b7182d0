/- WALKS: addresses: number, Parse, Print. -/
import Derived.Test.YtajllcbjgndcpaaGreatDoorZ1
import Derived.Lib.ConvBytes
namespace Go.Proofs.YtajllcbjgndcpaaGreatDoor
open Go.RowKit

theorem val_snoc (l : Lb.Bs) (c : UInt8) : Zn.val (l ++ [c]) = 10 * Zn.val l + (c.toNat - 48) := by unfold Zn.val; rw [List.foldl_append]; rfl
theorem val_lt : ∀ (n : Nat) (l : Lb.Bs), l.length = n → l.all Zn.dig = true → Zn.val l < 10 ^ n := by
  intro n
  induction n with
  | zero => intro l hl _; rw [List.eq_nil_of_length_eq_zero hl]; decide
  | succ n ih =>
    intro l hl hd
    rcases List.eq_nil_or_concat l with rfl | ⟨m, c, rfl⟩
    · simp at hl
    · rw [List.concat_eq_append] at hl hd ⊢
      simp at hl
      rw [List.all_append] at hd
      simp [Zn.dig, UInt8.le_iff_toNat_le] at hd
      have h1 := ih m hl (by simpa [Zn.dig, UInt8.le_iff_toNat_le] using hd.1)
      rw [val_snoc, Nat.pow_succ]
      omega
def numV (s : Lb.Bs) : Value := match Zn.numA s with
  | none => .tuple #[.int .i64 0, .bool false]
  | some n => .tuple #[.int .i64 (n : Int), .bool true]
def AddrNum (s : Lb.Bs) (w0 : World) (e : Ending) (w' : World) : Prop := e = .returned (numV s) ∧ Below w0.heap.size w0 w'
theorem bs_empty {s : ByteArray} (h : s.size = 0) : s = ⟨#[]⟩ := by
  obtain ⟨⟨l⟩⟩ := s
  have : l = [] := List.eq_nil_of_length_eq_zero (by simpa [ByteArray.size] using h)
  subst this; rfl
theorem bs_head {s : ByteArray} (h : 0 < s.size) : s.data.toList.head? = some s[0] := head_at h

set_option maxHeartbeats 1600000 in
theorem addrNum_any (s : ByteArray) (w : World) : Calls Tryz.prog 149 #[.string s] w (AddrNum s.data.toList w) := by
  have hlen := size_len s
  by_cases h0 : s.size = 0
  · have hs := bs_empty h0
    subst hs
    clear h0 hlen
    go_enter Tryz.func149, Tryz.ntmps149
    go_wp2
    go_ret2
    exact ⟨rfl, Below.refl _ _⟩
  · have hp : 0 < s.size := by omega
    have he : s.toList.isEmpty = false := by rw [ByteArray.toList_eq]; cases hl : s.data.toList with
      | nil => rw [hl] at hlen; simp at hlen; omega
      | cons a b => rfl
    have he2 : ¬ s.toList = [] := by intro e; rw [e] at he; cases he
    have hne : s.data.toList ≠ [] := by rw [← ByteArray.toList_eq]; exact he2
    by_cases h3 : 3 < s.size
    · have hv : numV s.data.toList = .tuple #[.int .i64 0, .bool false] := by unfold numV Zn.numA; rw [if_pos (.inr (.inl (by omega)))]
      unfold AddrNum
      rw [hv]
      have h3' : (3 : Int) < s.size := by omega
      clear hlen h0 hne h3 hv
      go_enter Tryz.func149, Tryz.ntmps149
      go_wp2
      go_ret2
      exact ⟨rfl, Below.refl _ _⟩
    · by_cases hz : 1 < s.size ∧ s[0] = 48
      · obtain ⟨h1, hz⟩ := hz
        have hv : numV s.data.toList = .tuple #[.int .i64 0, .bool false] := by
          unfold numV Zn.numA
          rw [if_pos (.inr (.inr ⟨by omega, by rw [bs_head hp, hz]⟩))]
        unfold AddrNum
        rw [hv]
        have h1' : (1 : Int) < s.size := by omega
        have h3' : (s.size : Int) ≤ 3 := by omega
        have hzb : ((s[0].toNat : Int) == 48) = true := by rw [hz]; rfl
        clear hlen h0 hne h3 hv hz h1
        go_enter Tryz.func149, Tryz.ntmps149
        go_wp2
        go_ret2
        exact ⟨rfl, Below.refl _ _⟩
      · have hcond : ¬ (s.data.toList = [] ∨ 3 < s.data.toList.length ∨ (1 < s.data.toList.length ∧ s.data.toList.head? = some 48)) := by
          rintro (e | e | ⟨e1, e2⟩)
          · exact hne e
          · omega
          · rw [bs_head hp] at e2
            injection e2 with e2
            exact hz ⟨by omega, e2⟩
        have hv : ∀ b, s.data.toList.all Zn.dig = b → numV s.data.toList = if b = true then .tuple #[.int .i64 (Zn.val s.data.toList : Int), .bool true] else .tuple #[.int .i64 0, .bool false] := by
          rintro b rfl
          unfold numV Zn.numA
          rw [if_neg hcond]
          cases hb : s.data.toList.all Zn.dig <;> simp
        have h3' : (s.size : Int) ≤ 3 := by omega
        have HV := Lib.hid hv
        have Hlen := Lib.hid hlen
        have hcv := fun W => Lib.run_convert_string_bytes (P := Tryz.prog) W 9 80 5 s Tryz.underlying9 Tryz.underlying80 Tryz.underlying5
        have key : ∀ W : World, W = w → (1 < s.size → (((s[0]'hp).toNat : Int) == 48) = false) → Calls Tryz.prog 149 #[.string s] W (AddrNum s.data.toList w) := by
          intro W hW hb
          have hcell : ∀ j, j < s.size → (Lib.bytesWorld W 5 s).cell? ⟨W.heap.size, j, none⟩ = some (.int .u8 (s.data.toList.getD j 0).toNat) := Lib.bytesWorld_cell W 5 s
          have HC := Lib.hid hcell
          have HB := Lib.hid (Lib.bytesWorld_below W 5 s)
          have hcases : (1 < s.size ∧ (((s[0]'hp).toNat : Int) == 48) = false ∧ (1 : Int) < s.size) ∨ ((s.size : Int) ≤ 1) := by
            by_cases h1 : 1 < s.size
            · exact .inl ⟨h1, hb h1, by omega⟩
            · exact .inr (by omega)
          subst hW
          clear hz hcond hv hlen hne h0 h3 hb hcell
          rcases hcases with ⟨-, hb', h1'⟩ | h1'
          all_goals
            go_enter Tryz.func149, Tryz.ntmps149
            go_wp2
            generalize Lib.bytesWorld W 5 s = w1 at *
            go_loop [4, 27] (fun n i => ∃ k : Nat, k ≤ s.size ∧ i = .int .i64 k ∧ n = .int .i64 (Zn.val (s.data.toList.take k) : Int) ∧ Hid ((s.data.toList.take k).all Zn.dig = true)) (fun _ i => s.size - (intOf i).toNat)
            case atStart => exact ⟨0, Nat.zero_le _, rfl, rfl, rfl⟩
            case round =>
              obtain ⟨k, hk, rfl, rfl, HD⟩ := hrel
              by_cases hlt : k < s.size
              · have hc := HC.out k hlt
                obtain ⟨c, hx⟩ : ∃ c, s.data.toList[k]? = some c := ⟨s.data.toList[k]'(by rw [Hlen.out]; exact hlt), List.getElem?_eq_getElem _⟩
                have hg : s.data.toList.getD k 0 = c := by rw [List.getD, hx]; rfl
                rw [hg] at hc
                have htk : s.data.toList.take (k + 1) = s.data.toList.take k ++ [c] := by rw [List.take_add_one, hx]; rfl
                have hvl := val_lt k (s.data.toList.take k) (by rw [List.length_take, Hlen.out]; omega) HD.out
                have hvb : Zn.val (s.data.toList.take k) < 1000 := by
                  have : k = 0 ∨ k = 1 ∨ k = 2 := by omega
                  rcases this with rfl | rfl | rfl <;> omega
                have hk0 : (0 : Int) ≤ (k : Int) := by omega
                have hk1 : (k : Int) < (s.size : Int) := by omega
                have hc0 : c.toNat < 256 := c.toNat_lt
                have Htk := Lib.hid htk
                have Hx := Lib.hid hx
                clear hvl hg htk hx
                by_cases hd : Zn.dig c = true
                · have hd' : 48 ≤ c.toNat ∧ c.toNat ≤ 57 := by simpa [Zn.dig, UInt8.le_iff_toNat_le] using hd
                  obtain ⟨hd1, hd2⟩ := hd'
                  have HV1 := Lib.hid (show Zn.val (s.data.toList.take (k + 1)) = 10 * Zn.val (s.data.toList.take k) + (c.toNat - 48) by rw [Htk.out, val_snoc])
                  have HD1 : Hid ((s.data.toList.take (k + 1)).all Zn.dig = true) := by
                    show _ = true
                    rw [Htk.out, List.all_append, HD.out]; simp [hd]
                  generalize Zn.val (s.data.toList.take k) = V at *
                  clear hd
                  obtain ⟨u, hu⟩ : ∃ u : Nat, c.toNat = 48 + u := ⟨c.toNat - 48, by omega⟩
                  rw [hu] at hc
                  have hu9 : u ≤ 9 := by omega
                  have Hu := Lib.hid hu
                  clear hu hd1 hd2 hc0
                  go_wp2
                  go_round
                  case rel => exact ⟨k + 1, by omega, by go_num, by rw [HV1.out, Hu.out]; exact congrArg _ (by omega), HD1⟩
                  case measure => simp [intOf]; omega
                · have hall : s.data.toList.all Zn.dig = false := by
                    cases hb : s.data.toList.all Zn.dig with
                    | false => rfl
                    | true => exact absurd (List.all_eq_true.1 hb c (List.mem_of_getElem? Hx.out)) hd
                  have hv := HV.out false hall
                  rw [if_neg (by decide)] at hv
                  have HV2 := Lib.hid hv
                  have hd' : c.toNat < 48 ∨ (¬ c.toNat < 48 ∧ 57 < c.toNat) := by
                    have : ¬ (48 ≤ c.toNat ∧ c.toNat ≤ 57) := by
                      intro e; exact hd (by simpa [Zn.dig, UInt8.le_iff_toNat_le] using e)
                    omega
                  clear hd hall hv
                  generalize Zn.val (s.data.toList.take k) = V at *
                  generalize c.toNat = u at *
                  rcases hd' with h5 | ⟨h5, h6⟩
                  all_goals
                    go_wp2
                    go_ret2
                    exact ⟨by rw [HV2.out]; rfl, HB.out⟩
              · obtain rfl : k = s.size := by omega
                have hall : s.data.toList.all Zn.dig = true := by
                  have := HD.out
                  rwa [List.take_of_length_le (by rw [Hlen.out]; exact Nat.le_refl _)] at this
                have hv := HV.out true hall
                rw [if_pos rfl] at hv
                have HV2 := Lib.hid hv
                rw [List.take_of_length_le (by rw [Hlen.out]; exact Nat.le_refl _)]
                clear hall hv
                generalize Zn.val s.data.toList = V at *
                go_wp2
                go_ret2
                exact ⟨by rw [HV2.out]; rfl, HB.out⟩
        exact key w rfl (fun h1 => by rw [beq_eq_false_iff_ne]; intro e; exact hz ⟨h1, UInt8.toNat_inj.1 (by rw [show (48 : UInt8).toNat = 48 from rfl]; omega)⟩)
end Go.Proofs.YtajllcbjgndcpaaGreatDoor
