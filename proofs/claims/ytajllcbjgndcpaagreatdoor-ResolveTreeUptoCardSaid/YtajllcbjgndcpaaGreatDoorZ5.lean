/- WALKS: the data of a record; the order of records; one record in its zone. -/
import Derived.Test.YtajllcbjgndcpaaGreatDoorZ4
import Derived.Test.YtajllcbjgndcpaaGreatDoorS1
import Derived.Test.YtajllcbjgndcpaaGreatDoorDue
namespace Go.Proofs.YtajllcbjgndcpaaGreatDoor
open Go.RowKit Go.Maps

theorem parseA_lt : ∀ (l : List Lb.Bs) (o : Nat) (g : Bool) (r : Nat × Bool), o < 4294967296 → Zn.partsA o g l = some r → r.1 < 4294967296
  | [], o, g, r, ho, h => by simp [Zn.partsA] at h; rw [← h]; exact ho
  | w :: l, o, g, r, ho, h => by
    cases hn : Zn.numA w with
    | none => rw [partsA_bad hn] at h; cases h
    | some n => rw [partsA_step hn] at h; exact parseA_lt l _ _ r (by omega) h
theorem parseA_small (s : Lb.Bs) : (Zn.parseA s).1 < 4294967296 := by
  unfold Zn.parseA
  split
  · decide
  · split
    · decide
    · decide
    · rename_i a h
      exact parseA_lt _ 0 false (a, false) (by decide) h
theorem bs_eq (a b : Lb.Bs) : ((⟨a.toArray⟩ : ByteArray).toList == (⟨b.toArray⟩ : ByteArray).toList) = decide (a = b) := by
  rw [ByteArray.toList_eq, ByteArray.toList_eq, Bool.eq_iff_iff]; simp
def DataEnd (r : Cb.Rec) (w0 : World) (e : Ending) (w' : World) : Prop := e = .returned (.bool (Zn.dataOk r)) ∧ Below w0.heap.size w0 w'

set_option maxHeartbeats 3200000 in
set_option maxRecDepth 100000 in
theorem data_addr (r : Cb.Rec) (hk : r.kind = 1) (hs : r.data.length ≤ 1048576) (w : World) (henv : EnvZ w) : Calls Tryz.prog 79 #[.agg (recV r).toArray] w (DataEnd r w) := by
  have hd : Zn.dataOk r = Zn.addrOk r.data := by unfold Zn.dataOk; rw [if_pos hk]
  unfold DataEnd
  rw [hd]
  obtain ⟨nm, kd, ttl, dt⟩ := r
  subst hk
  unfold recV
  dsimp only at hs ⊢
  have hBa : Below w.heap.size w (w.alloc (.cells #[.string ⟨nm.toArray⟩, .int .i64 1, .int .i64 ttl, .string ⟨dt.toArray⟩] 43)) := (Below.refl _ w).alloc (Nat.le_refl _) _
  have hbx := heap_alloc_new w (.cells #[.string ⟨nm.toArray⟩, .int .i64 1, .int .i64 ttl, .string ⟨dt.toArray⟩] 43)
  have hP : Calls Tryz.prog 121 #[.string ⟨dt.toArray⟩] (w.alloc (.cells #[.string ⟨nm.toArray⟩, .int .i64 1, .int .i64 ttl, .string ⟨dt.toArray⟩] 43)) (ParseEnd dt _) := addrParse_any ⟨dt.toArray⟩ _ (henv.later hBa).env (by rw [size_of]; omega)
  unfold ParseEnd at hP
  have hsm := parseA_small dt
  have HW := Lib.hid (fun W (hW : Below w.heap.size w W) => addrPrint_any (Zn.parseA dt).1 hsm W (henv.later hW))
  unfold Zn.addrOk
  generalize (Zn.parseA dt).1 = a at *
  generalize (Zn.parseA dt).2 = q at *
  have HP := Lib.hid hP
  have HBa := Lib.hid hBa
  have Hbx := Lib.hid hbx
  have Hs := Lib.hid (show w.heap.size < (w.alloc (.cells #[.string ⟨nm.toArray⟩, .int .i64 1, .int .i64 ttl, .string ⟨dt.toArray⟩] 43)).heap.size by simp)
  clear hP hBa hbx
  by_cases hq : q = 0
  · have hqb : (q == 0) = true := by rw [beq_iff_eq]; exact hq
    rw [decide_eq_true hq, Bool.true_and]
    clear hq
    go_enter Tryz.func79, Tryz.ntmps79
    go_wp2_with fail
    refine HP.out.mono ?_
    rintro e w1 ⟨rfl, hB⟩
    have hB1 := HBa.out.trans (hB.mono HBa.out.size)
    have hx1 := (hB.block _ Hs.out).trans Hbx.out
    have hc := fun j => cell_of_row w1 w.heap.size j _ _ _ hx1
    clear hB
    go_upto_region 4 with fail
    have hE : (Zn.printA a == dt) = decide (Zn.printA a = dt) := by rw [Bool.eq_iff_iff]; simp
    have hS1 : (fun W => W.cell? ⟨w.heap.size, 3, none⟩ = some (.string ⟨dt.toArray⟩)) w1.drew := by show w1.cell? _ = _; rw [hc]; rfl
    have HE := Lib.hid hE
    have Hx1 := Lib.hid hx1
    clear hc hE hx1
    refine wp_region_due [0, 1, 2, 3, 4, 5, 6, 7, 8] (fun W => W.cell? ⟨w.heap.size, 3, none⟩ = some (.string ⟨dt.toArray⟩)) (by kernel_rfl) ?_
    refine wpDue_take (i := 0) (v := ?_) rfl (by kernel_rfl) (by kernel_rfl) (by kernel_rfl) (by kernel_rfl) (fun _ _ _ h => h) hS1 (.inl ⟨by rfl, ?_⟩) ?_
    rotate_left
    · intro W hW; (try dsimp only at hW); go_simp; try with_reducible rfl
    try simp only [Act.put]
    try simp only [List.setIfInBounds_toArray]
    try simp only [List.set_cons_succ]
    try simp only [List.set_cons_zero]
    refine wpDue_take (i := 1) (v := ?_) rfl (by kernel_rfl) (by kernel_rfl) (by kernel_rfl) (by kernel_rfl) (fun _ _ _ h => h) hS1 (.inl ⟨by rfl, ?_⟩) ?_
    rotate_left
    · intro W hW; (try dsimp only at hW); go_simp; try with_reducible rfl
    try simp only [Act.put]
    try simp only [List.setIfInBounds_toArray]
    try simp only [List.set_cons_succ]
    try simp only [List.set_cons_zero]
    refine wpDue_take (i := 2) (v := ?_) rfl (by kernel_rfl) (by kernel_rfl) (by kernel_rfl) (by kernel_rfl) (fun _ _ _ h => h) hS1 (.inl ⟨by rfl, ?_⟩) ?_
    rotate_left
    · intro W hW; (try dsimp only at hW); go_simp; try with_reducible rfl
    try simp only [Act.put]
    try simp only [List.setIfInBounds_toArray]
    try simp only [List.set_cons_succ]
    try simp only [List.set_cons_zero]
    refine wpDue_take (i := 3) (v := ?_) rfl (by kernel_rfl) (by kernel_rfl) (by kernel_rfl) (by kernel_rfl) (fun _ _ _ h => h) hS1 (.inl ⟨by rfl, ?_⟩) ?_
    rotate_left
    · intro W hW; (try dsimp only at hW); go_simp; try with_reducible rfl
    try simp only [Act.put]
    try simp only [List.setIfInBounds_toArray]
    try simp only [List.set_cons_succ]
    try simp only [List.set_cons_zero]
    refine wpDue_take (i := 5) (v := ?_) rfl (by kernel_rfl) (by kernel_rfl) (by kernel_rfl) (by kernel_rfl) (fun _ _ _ h => h) hS1 (.inl ⟨by rfl, ?_⟩) ?_
    rotate_left
    · intro W hW; (try dsimp only at hW); go_simp; try with_reducible rfl
    try simp only [Act.put]
    try simp only [List.setIfInBounds_toArray]
    try simp only [List.set_cons_succ]
    try simp only [List.set_cons_zero]
    refine wpDue_take (i := 6) (v := ?_) rfl (by kernel_rfl) (by kernel_rfl) (by kernel_rfl) (by kernel_rfl) (fun _ _ _ h => h) hS1 (.inl ⟨by rfl, ?_⟩) ?_
    rotate_left
    · intro W hW; (try dsimp only at hW); go_simp; try with_reducible rfl
    try simp only [Act.put]
    try simp only [List.setIfInBounds_toArray]
    try simp only [List.set_cons_succ]
    try simp only [List.set_cons_zero]
    refine wpDue_one (i := 4) (by kernel_rfl) rfl (fun K hK => ?_)
    have HK := Lib.hid hK
    clear hK
    go_simp
    refine (HW.out _ hB1.drew).mono ?_
    rintro e w2 ⟨rfl, hb⟩
    have hB2 := hB1.drew.trans (hb.mono hB1.drew.size)
    have hS2 : w2.cell? ⟨w.heap.size, 3, none⟩ = some (.string ⟨dt.toArray⟩) := by rw [cell_of_row w2 _ 3 _ _ _ ((hb.block w.heap.size (Array.getElem?_eq_some_iff.1 Hx1.out).1).trans Hx1.out)]; rfl
    clear hb
    refine HK.out _ _ (fun _ => hS2) ?_
    clear HK K
    try simp only [Act.put]
    try simp only [List.setIfInBounds_toArray]
    try simp only [List.set_cons_succ]
    try simp only [List.set_cons_zero]
    refine wpDue_one (i := 7) (by kernel_rfl) rfl (fun K hK => ?_)
    have HK := Lib.hid hK
    clear hK
    go_simp
    refine HK.out _ _ (fun _ => hS2) ?_
    clear HK K
    try simp only [Act.put]
    try simp only [List.setIfInBounds_toArray]
    try simp only [List.set_cons_succ]
    try simp only [List.set_cons_zero]
    refine wpDue_one (i := 8) (by kernel_rfl) rfl (fun K hK => ?_)
    have HK := Lib.hid hK
    clear hK
    go_simp
    refine HK.out _ _ (fun _ => hS2) ?_
    clear HK K
    try simp only [Act.put]
    try simp only [List.setIfInBounds_toArray]
    try simp only [List.set_cons_succ]
    try simp only [List.set_cons_zero]
    refine wpDue_one (i := 9) (by kernel_rfl) rfl (fun K hK => ?_)
    have HK := Lib.hid hK
    clear hK
    go_simp
    refine HK.out _ _ (fun h => absurd h (by decide)) ?_
    clear HK K
    try simp only [Act.put]
    try simp only [List.setIfInBounds_toArray]
    try simp only [List.set_cons_succ]
    try simp only [List.set_cons_zero]
    refine wpDue_done (by kernel_rfl) ?_ _
    clear hS1 hS2
    go_wp2
    go_ret
    exact ⟨by rw [← HE.out]; rfl, hB2⟩
  · have hqb : (q == 0) = false := beq_eq_false_iff_ne.2 hq
    rw [decide_eq_false hq, Bool.false_and]
    clear hq
    go_enter Tryz.func79, Tryz.ntmps79
    go_wp2_with fail
    refine HP.out.mono ?_
    rintro e w1 ⟨rfl, hB⟩
    have hB1 := HBa.out.trans (hB.mono HBa.out.size)
    have hc := fun j => cell_of_row w1 w.heap.size j _ _ _ ((hB.block _ Hs.out).trans Hbx.out)
    clear hB
    go_upto_region 4 with fail
    go_quiet (fail)
    go_wp2
    go_ret
    exact ⟨rfl, below_dN hB1 nq⟩
theorem star_is (l : Lb.Bs) : Lib.hasPrefix l [42] = Zn.star l := by
  unfold Lib.hasPrefix Zn.star
  cases l with
  | nil => rfl
  | cons c r => simp [List.isPrefixOf]; rw [Bool.eq_iff_iff]; simp; exact eq_comm
theorem star_any (s : ByteArray) (w : World) : Calls Tryz.prog 36 #[.string s, .string ⟨#[42]⟩] w fun e w' => e = .returned (.bool (Zn.star s.data.toList)) ∧ w = w' :=
  (Tryz.strings_HasPrefix s ⟨#[42]⟩ w).mono fun e w' ⟨he, hw⟩ => ⟨by rw [he]; exact congrArg (fun b => Ending.returned (.bool b)) (star_is _), hw.symm⟩

set_option maxHeartbeats 3200000 in
set_option maxRecDepth 100000 in
theorem data_name (r : Cb.Rec) (hk : r.kind = 2 ∨ r.kind = 3) (w : World) (henv : EnvZ w) : Calls Tryz.prog 79 #[.agg (recV r).toArray] w (DataEnd r w) := by
  have hd : Zn.dataOk r = (decide (Lb.check r.data = 0) && !Zn.star r.data) := by unfold Zn.dataOk; rw [if_neg (by omega), if_pos hk]
  unfold DataEnd
  rw [hd]
  obtain ⟨nm, kd, ttl, dt⟩ := r
  unfold recV
  dsimp only at hk hd ⊢
  have hBa : Below w.heap.size w (w.alloc (.cells #[.string ⟨nm.toArray⟩, .int .i64 kd, .int .i64 ttl, .string ⟨dt.toArray⟩] 43)) := (Below.refl _ w).alloc (Nat.le_refl _) _
  have hbx := heap_alloc_new w (.cells #[.string ⟨nm.toArray⟩, .int .i64 kd, .int .i64 ttl, .string ⟨dt.toArray⟩] 43)
  have HP := Lib.hid (check_any ⟨dt.toArray⟩ _ (henv.later hBa).env)
  have hdt : (⟨dt.toArray⟩ : ByteArray).data.toList = dt := rfl
  rw [hdt] at HP
  have HW := Lib.hid (fun W => star_any ⟨dt.toArray⟩ W)
  rw [hdt] at HW
  generalize Zn.star dt = st at *
  generalize Lb.check dt = q at *
  have HBa := Lib.hid hBa
  have Hbx := Lib.hid hbx
  have Hs := Lib.hid (show w.heap.size < (w.alloc (.cells #[.string ⟨nm.toArray⟩, .int .i64 kd, .int .i64 ttl, .string ⟨dt.toArray⟩] 43)).heap.size by simp)
  clear hBa hbx hd hdt
  by_cases hq : q = 0
  · have hqb : (q == 0) = true := by rw [beq_iff_eq]; exact hq
    rw [decide_eq_true hq, Bool.true_and]
    clear hq
    rcases hk with rfl | rfl
    all_goals
      go_enter Tryz.func79, Tryz.ntmps79
      go_wp2_with fail
      refine HP.out.mono ?_
      rintro e w1 ⟨rfl, hB⟩
      have hB1 := HBa.out.trans (hB.mono HBa.out.size)
      have hc := fun j => cell_of_row w1 w.heap.size j _ _ _ ((hB.block _ Hs.out).trans Hbx.out)
      clear hB
      go_wp2_with fail
      refine (HW.out _).mono ?_
      rintro e w2 ⟨rfl, rfl⟩
      go_wp2
      go_ret
      exact ⟨rfl, hB1⟩
  · have hqb : (q == 0) = false := beq_eq_false_iff_ne.2 hq
    rw [decide_eq_false hq, Bool.false_and]
    clear hq
    rcases hk with rfl | rfl
    all_goals
      go_enter Tryz.func79, Tryz.ntmps79
      go_wp2_with fail
      refine HP.out.mono ?_
      rintro e w1 ⟨rfl, hB⟩
      have hB1 := HBa.out.trans (hB.mono HBa.out.size)
      clear hB
      go_wp2
      go_ret
      exact ⟨rfl, hB1⟩

set_option maxHeartbeats 3200000 in
set_option maxRecDepth 100000 in
theorem data_text (r : Cb.Rec) (hk : r.kind = 4) (w : World) : Calls Tryz.prog 79 #[.agg (recV r).toArray] w (DataEnd r w) := by
  have hd : Zn.dataOk r = (decide (r.data.length ≤ 40) && r.data.all Zn.seen) := by unfold Zn.dataOk; rw [if_neg (by omega), if_neg (by omega), if_pos hk]
  unfold DataEnd
  rw [hd]
  obtain ⟨nm, kd, ttl, dt⟩ := r
  unfold recV
  dsimp only at hk hd ⊢
  subst hk
  have hBa : Below w.heap.size w (w.alloc (.cells #[.string ⟨nm.toArray⟩, .int .i64 4, .int .i64 ttl, .string ⟨dt.toArray⟩] 43)) := (Below.refl _ w).alloc (Nat.le_refl _) _
  have HW := Lib.hid (fun W => contains_unseen ⟨dt.toArray⟩ W)
  have hdt : (⟨dt.toArray⟩ : ByteArray).data.toList = dt := rfl
  rw [hdt] at HW
  have hsz : (⟨dt.toArray⟩ : ByteArray).size = dt.length := size_of dt
  generalize dt.all Zn.seen = st at *
  have HBa := Lib.hid hBa
  have Hsz := Lib.hid hsz
  clear hBa hd hdt hsz
  by_cases hq : dt.length ≤ 40
  · rw [decide_eq_true hq, Bool.true_and]
    have hq' : ((⟨dt.toArray⟩ : ByteArray).size : Int) ≤ 40 := by rw [Hsz.out]; omega
    have hq2 : (dt.length : Int) ≤ 40 := by omega
    clear hq
    go_enter Tryz.func79, Tryz.ntmps79
    go_wp2_with fail
    refine (HW.out _).mono ?_
    rintro e w2 ⟨rfl, hB⟩
    have hB1 := HBa.out.trans (hB.mono HBa.out.size)
    clear hB
    go_wp2
    go_ret
    exact ⟨by first | rfl | (simp; done), hB1⟩
  · rw [decide_eq_false hq, Bool.false_and]
    have hq' : (40 : Int) < ((⟨dt.toArray⟩ : ByteArray).size : Int) := by rw [Hsz.out]; omega
    have hq2 : (40 : Int) < (dt.length : Int) := by omega
    clear hq
    go_enter Tryz.func79, Tryz.ntmps79
    go_wp2
    go_ret
    exact ⟨rfl, HBa.out⟩

set_option maxHeartbeats 3200000 in
set_option maxRecDepth 100000 in
theorem data_start (r : Cb.Rec) (hk : ¬ (r.kind = 1 ∨ r.kind = 2 ∨ r.kind = 3 ∨ r.kind = 4)) (hs : r.data.length ≤ 1048576) (w : World) (henv : EnvZ w) : Calls Tryz.prog 79 #[.agg (recV r).toArray] w (DataEnd r w) := by
  have hd : Zn.dataOk r = (Zn.num r.data 1000000).2 := by unfold Zn.dataOk; rw [if_neg (by omega), if_neg (by omega), if_neg (by omega)]
  unfold DataEnd
  rw [hd]
  obtain ⟨nm, kd, ttl, dt⟩ := r
  unfold recV
  dsimp only at hk hd hs ⊢
  have hBa : Below w.heap.size w (w.alloc (.cells #[.string ⟨nm.toArray⟩, .int .i64 kd, .int .i64 ttl, .string ⟨dt.toArray⟩] 43)) := (Below.refl _ w).alloc (Nat.le_refl _) _
  have hP : Calls Tryz.prog 100 #[.string ⟨dt.toArray⟩, .int .i64 1000000] (w.alloc (.cells #[.string ⟨nm.toArray⟩, .int .i64 kd, .int .i64 ttl, .string ⟨dt.toArray⟩] 43)) (NumEnd dt 1000000 _) :=
    number_any ⟨dt.toArray⟩ 1000000 _ (henv.later hBa) (by rw [size_of]; omega) (by decide)
  unfold NumEnd at hP
  generalize Zn.num dt 1000000 = nb at *
  obtain ⟨n, b⟩ := nb
  have HP := Lib.hid hP
  have HBa := Lib.hid hBa
  have k1 : (kd == 1) = false := by rw [beq_eq_false_iff_ne]; omega
  have k2 : (kd == 2) = false := by rw [beq_eq_false_iff_ne]; omega
  have k3 : (kd == 3) = false := by rw [beq_eq_false_iff_ne]; omega
  have k4 : (kd == 4) = false := by rw [beq_eq_false_iff_ne]; omega
  clear hBa hd hP hk
  go_enter Tryz.func79, Tryz.ntmps79
  go_wp2_with fail
  refine HP.out.mono ?_
  rintro e w1 ⟨rfl, hB⟩
  have hB1 := HBa.out.trans (hB.mono HBa.out.size)
  clear hB
  go_wp2
  go_ret
  exact ⟨rfl, hB1⟩
theorem data_any (r : Cb.Rec) (hs : r.data.length ≤ 1048576) (w : World) (henv : EnvZ w) : Calls Tryz.prog 79 #[.agg (recV r).toArray] w (DataEnd r w) := by
  by_cases h1 : r.kind = 1
  · exact data_addr r h1 hs w henv
  · by_cases h2 : r.kind = 2 ∨ r.kind = 3
    · exact data_name r h2 w henv
    · by_cases h4 : r.kind = 4
      · exact data_text r h4 w
      · exact data_start r (by omega) hs w henv
end Go.Proofs.YtajllcbjgndcpaaGreatDoor
