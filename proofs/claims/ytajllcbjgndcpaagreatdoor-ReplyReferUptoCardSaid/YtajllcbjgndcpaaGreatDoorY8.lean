/- WALKS: ReplyRefer, ReplyNoName. -/
import Derived.Test.YtajllcbjgndcpaaGreatDoorY7
import Derived.Test.YtajllcbjgndcpaaGreatDoorS1
import Derived.Test.YtajllcbjgndcpaaGreatDoorK14
namespace Go.Proofs.YtajllcbjgndcpaaGreatDoor
open Go.RowKit Go.Maps

set_option maxHeartbeats 6400000 in
set_option maxRecDepth 100000 in
/-- No referral. -/
theorem refer_not (o : Lb.Bs) (za : Option Addr) (n zc : Nat) (nm : Lb.Bs) (kd q : Int) (R : Rn.Reply) (hq : q ≠ 0 ∨ q = 0 ∧ R.code ≠ 3) (w : World) (henv : EnvZ w)
    (hA : ∀ W, Below w.heap.size w W → Calls Tryz.prog 22 #[zoneV o za n zc, .string ⟨nm.toArray⟩, .int .i64 kd] W (AnsEnd R q W)) :
    Calls Tryz.prog 6 #[zoneV o za n zc, .string ⟨nm.toArray⟩, .int .i64 kd] w (TrueEnd w) := by
  have HA := Lib.hid hA
  have HF := Lib.hid (fun W (hW : Below w.heap.size w W) => replyFact_any W (henv.later hW))
  unfold AnsEnd zoneV at HA
  unfold TrueEnd at HF
  unfold zoneV
  obtain ⟨c, L, S, G, ng⟩ := R
  dsimp only at hq
  have HB := Lib.hid ((Below.refl _ w).alloc (Nat.le_refl _) (.cells #[.string ⟨o.toArray⟩, .slice za n zc] 24))
  have hcases : ((q == 0) = false ∧ (q != 0) = true) ∨ ((q == 0) = true ∧ (q != 0) = false ∧ (c == 3) = false ∧ (c != 3) = true) := by
    rcases hq with h | ⟨rfl, h⟩
    · have := beq_eq_false_iff_ne.2 h
      exact .inl ⟨this, by rw [bne, this]; rfl⟩
    · have := beq_eq_false_iff_ne.2 h
      exact .inr ⟨rfl, rfl, this, by rw [bne, this]; rfl⟩
  clear hA hq henv
  rcases hcases with ⟨h1, h2⟩ | ⟨h1, h2, h3, h4⟩
  all_goals
    go_enter Tryz.func6, Tryz.ntmps6
    go_wp2_with fail
    generalize w.alloc (.cells #[.string ⟨o.toArray⟩, .slice za n zc] 24) = w2 at *
    refine (HA.out _ HB.out).mono ?_
    rintro e w3 ⟨v, rfl, hrep, hB3⟩
    have HB3 := Lib.hid (HB.out.trans (hB3.mono HB.out.size))
    obtain ⟨v1, v2, v3, rfl, hr1, hr2, hr3⟩ := hrep.val
    dsimp only at hr1 hr2 hr3 ⊢
    obtain ⟨a1, k1, rfl⟩ := hr1.val
    obtain ⟨a2, k2, rfl⟩ := hr2.val
    obtain ⟨a3, k3, rfl⟩ := hr3.val
    clear hrep hr1 hr2 hr3 hB3
    have HBa := Lib.hid (HB3.out.alloc HB3.out.size (.cells #[.int .i64 c, .slice a1 L.length k1, .slice a2 S.length k2, .slice a3 G.length k3, .int .i64 ng] 39))
    go_wp2_with fail
    refine (HF.out _ HBa.out).mono ?_
    rintro e w4 ⟨rfl, hB4⟩
    have HB4 := Lib.hid (HBa.out.trans (hB4.mono HBa.out.size))
    clear hB4
    go_wp2
    go_ret
    exact true_ret rfl HB4.out

/-- Behind the second answer. -/
def RefMid (B : Nat) (R : Rn.Reply) (w4 : World) (p q : Value) (wx : World) : Prop :=
  ∃ (b2 : Nat) (a1 : Option Addr) (k1 : Nat) (a2 : Option Addr) (k2 : Nat) (a3 : Option Addr) (k3 : Nat), p = .pointer (some ⟨b2, 0, none⟩) ∧ q = .int .i64 0 ∧
    Blk wx b2 #[.int .i64 R.code, .slice a1 R.recs.length k1, .slice a2 R.servers.length k2, .slice a3 R.glue.length k3, .int .i64 R.neg] 39 ∧
    Recs B wx (.slice a1 R.recs.length k1) R.recs ∧ Recs B wx (.slice a2 R.servers.length k2) R.servers ∧ Recs B wx (.slice a3 R.glue.length k3) R.glue ∧ Below w4.heap.size w4 wx
theorem Recs.farQ {B : Nat} {w : World} {v : Value} {l : List Cb.Rec} (h : Recs B w v l) {q : Nat} {cs : Array Value} {T : TypeId} (hq : Blk w q cs T) (hT : T ≠ 43) (hB : B ≤ q) (j : Nat) (u : Value) : Recs B (w.setCell ⟨q, j, none⟩ u) v l := by
  obtain ⟨a, cap, h1, h2, h3, h4⟩ := h
  refine ⟨a, cap, h1, h2, h3, fun hn => ?_⟩
  obtain ⟨b, o, h5, h6, h7, h8⟩ := h4 hn
  have hne : b ≠ q := by
    rcases h7 with h7 | ⟨cs', fr, h7⟩
    · omega
    · rintro rfl; exact hT (hq.uniq h7).2
  have hb : (w.setCell ⟨q, j, none⟩ u).heap[b]? = w.heap[b]? := Below.heap_setCell _ _ _ _ hne
  refine ⟨b, o, h5, by simpa [World.setCell] using h6, ?_, fun j' r hr i u' hu => (World.cell?_of_block hb).trans (h8 j' r hr i u' hu)⟩
  rcases h7 with h7 | ⟨cs', fr, h7⟩
  · exact .inl h7
  · exact .inr ⟨cs', fr, hb.trans h7⟩
theorem Recs.fiveQ {B : Nat} {w : World} {v : Value} {l : List Cb.Rec} (h : Recs B w v l) {q : Nat} {cs : Array Value} (hq : Blk w q cs 39) (hB : B ≤ q) {v0 v1 v2 v3 v4 : Value} : Recs B (five w q v0 v1 v2 v3 v4) v l := by
  have hT : (39 : TypeId) ≠ 43 := by decide
  exact ((((h.farQ hq hT hB 0 v0).farQ (hq.set v0) hT hB 1 v1).farQ ((hq.set v0).set v1) hT hB 2 v2).farQ (((hq.set v0).set v1).set v2) hT hB 3 v3).farQ ((((hq.set v0).set v1).set v2).set v3) hT hB 4 v4

set_option maxHeartbeats 6400000 in
set_option maxRecDepth 100000 in
theorem refer_is (B : Nat) (o : Lb.Bs) (za : Option Addr) (n zc : Nat) (nm : Lb.Bs) (kd : Int) (cu : Lb.Bs) (R : Rn.Reply) (x : Cb.Rec) (S : List Cb.Rec) (hc : R.code = 3) (hx : R.servers = x :: S) (hn : x.name = cu) (w : World) (henv : EnvZ w)
    (hA : ∀ W, Below w.heap.size w W → Calls Tryz.prog 22 #[zoneV o za n zc, .string ⟨nm.toArray⟩, .int .i64 kd] W (AnsEnd R 0 W))
    (hA2 : ∀ W, Below w.heap.size w W → Calls Tryz.prog 22 #[zoneV o za n zc, .string ⟨cu.toArray⟩, .int .i64 4] W (AnsEnd R 0 W)) :
    Calls Tryz.prog 6 #[zoneV o za n zc, .string ⟨nm.toArray⟩, .int .i64 kd] w (TrueEnd w) := by
  have HA := Lib.hid hA
  have HA2 := Lib.hid hA2
  have HF := Lib.hid (fun W (hW : Below w.heap.size w W) => replyFact_any W (henv.later hW))
  unfold AnsEnd zoneV at HA HA2
  unfold TrueEnd at HF
  unfold zoneV
  obtain ⟨c, L, S0, G, ng⟩ := R
  dsimp only at hc hx
  subst hc hx hn
  obtain ⟨xn, xk, xt, xd⟩ := x
  have HB := Lib.hid ((Below.refl _ w).alloc (Nat.le_refl _) (.cells #[.string ⟨o.toArray⟩, .slice za n zc] 24))
  have Hb1 := Lib.hid (blk_new w #[.string ⟨o.toArray⟩, .slice za n zc] 24)
  clear hA hA2 henv
  go_enter Tryz.func6, Tryz.ntmps6
  go_wp2_with fail
  generalize w.alloc (.cells #[.string ⟨o.toArray⟩, .slice za n zc] 24) = w2 at *
  refine (HA.out _ HB.out).mono ?_
  rintro e w3 ⟨v, rfl, hrep, hB3⟩
  have HB3 := Lib.hid (HB.out.trans (hB3.mono HB.out.size))
  have Hz3 := Lib.hid (Hb1.out.later hB3)
  obtain ⟨v1, v2, v3, rfl, hr1, hr2, hr3⟩ := hrep.val
  dsimp only at hr1 hr2 hr3 ⊢
  obtain ⟨a1, k1, rfl⟩ := hr1.val
  obtain ⟨a2, k2, rfl⟩ := hr2.val
  obtain ⟨a3, k3, rfl⟩ := hr3.val
  have HR1 := Lib.hid (RowR.recs (B' := w.heap.size) hr1)
  have HR2 := Lib.hid (RowR.recs (B' := w.heap.size) hr2)
  have HR3 := Lib.hid (RowR.recs (B' := w.heap.size) hr3)
  clear hrep hr1 hr2 hr3 hB3 HA
  have HB4 := Lib.hid (HB3.out.alloc HB3.out.size (.cells #[.int .i64 3, .slice a1 L.length k1, .slice a2 (⟨xn, xk, xt, xd⟩ :: S : List Cb.Rec).length k2, .slice a3 G.length k3, .int .i64 ng] 39))
  have Hbl := Lib.hid (blk_new w3 #[.int .i64 3, .slice a1 L.length k1, .slice a2 (⟨xn, xk, xt, xd⟩ :: S : List Cb.Rec).length k2, .slice a3 G.length k3, .int .i64 ng] 39)
  obtain ⟨b, p, rfl, hb, c0, c1, c2, c3⟩ := recs_at (HR2.out.later ((Below.refl _ w3).alloc (Nat.le_refl _) (.cells #[.int .i64 3, .slice a1 L.length k1, .slice a2 (⟨xn, xk, xt, xd⟩ :: S : List Cb.Rec).length k2, .slice a3 G.length k3, .int .i64 ng] 39))) (k := 0) rfl
  have d0 : (w3.alloc (.cells #[.int .i64 3, .slice a1 L.length k1, .slice (some ⟨b, p, none⟩) (⟨xn, xk, xt, xd⟩ :: S : List Cb.Rec).length k2, .slice a3 G.length k3, .int .i64 ng] 39)).cell? ⟨b, p, none⟩ = some (.string ⟨xn.toArray⟩) := by simpa using c0
  have D0 := Lib.hid d0
  have Hz4 := Lib.hid (Hz3.out.later ((Below.refl _ w3).alloc (Nat.le_refl _) (.cells #[.int .i64 3, .slice a1 L.length k1, .slice (some ⟨b, p, none⟩) (⟨xn, xk, xt, xd⟩ :: S : List Cb.Rec).length k2, .slice a3 G.length k3, .int .i64 ng] 39)))
  have HQ1 := Lib.hid (HR1.out.later ((Below.refl _ w3).alloc (Nat.le_refl _) (.cells #[.int .i64 3, .slice a1 L.length k1, .slice (some ⟨b, p, none⟩) (⟨xn, xk, xt, xd⟩ :: S : List Cb.Rec).length k2, .slice a3 G.length k3, .int .i64 ng] 39)))
  have HQ2 := Lib.hid (HR2.out.later ((Below.refl _ w3).alloc (Nat.le_refl _) (.cells #[.int .i64 3, .slice a1 L.length k1, .slice (some ⟨b, p, none⟩) (⟨xn, xk, xt, xd⟩ :: S : List Cb.Rec).length k2, .slice a3 G.length k3, .int .i64 ng] 39)))
  have HQ3 := Lib.hid (HR3.out.later ((Below.refl _ w3).alloc (Nat.le_refl _) (.cells #[.int .i64 3, .slice a1 L.length k1, .slice (some ⟨b, p, none⟩) (⟨xn, xk, xt, xd⟩ :: S : List Cb.Rec).length k2, .slice a3 G.length k3, .int .i64 ng] 39)))
  clear c0 c1 c2 c3 d0
  go_wp2
  generalize w3.alloc (.cells #[.int .i64 3, .slice a1 L.length k1, .slice (some ⟨b, p, none⟩) (⟨xn, xk, xt, xd⟩ :: S : List Cb.Rec).length k2, .slice a3 G.length k3, .int .i64 ng] 39) = w4 at *
  go_cut [9, 10] (fun sp sq wx => RefMid w.heap.size ⟨3, L, ⟨xn, xk, xt, xd⟩ :: S, G, ng⟩ w4 sp sq wx)
  case first =>
    have hS1 : (fun W => W.cell? ⟨w.heap.size, 0, none⟩ = some (.string ⟨o.toArray⟩) ∧ W.cell? ⟨w.heap.size, 1, none⟩ = some (.slice za n zc) ∧ W.cell? ⟨w3.heap.size, 2, none⟩ = some (.slice (some ⟨b, p, none⟩) (S.length + 1) k2) ∧ W.cell? ⟨b, p, none⟩ = some (.string ⟨xn.toArray⟩)) w4.drew := by
      refine ⟨?_, ?_, ?_, ?_⟩
      · show w4.cell? _ = _; rw [Hz4.out.cell 0]; rfl
      · show w4.cell? _ = _; rw [Hz4.out.cell 1]; rfl
      · show w4.cell? _ = _; rw [Hbl.out.cell 2]; rfl
      · exact D0.out
    have keep : ∀ {W : World}, Below w4.heap.size w4 W → (fun W => W.cell? ⟨w.heap.size, 0, none⟩ = some (.string ⟨o.toArray⟩) ∧ W.cell? ⟨w.heap.size, 1, none⟩ = some (.slice za n zc) ∧ W.cell? ⟨w3.heap.size, 2, none⟩ = some (.slice (some ⟨b, p, none⟩) (S.length + 1) k2) ∧ W.cell? ⟨b, p, none⟩ = some (.string ⟨xn.toArray⟩)) w4.drew → (fun W => W.cell? ⟨w.heap.size, 0, none⟩ = some (.string ⟨o.toArray⟩) ∧ W.cell? ⟨w.heap.size, 1, none⟩ = some (.slice za n zc) ∧ W.cell? ⟨w3.heap.size, 2, none⟩ = some (.slice (some ⟨b, p, none⟩) (S.length + 1) k2) ∧ W.cell? ⟨b, p, none⟩ = some (.string ⟨xn.toArray⟩)) W := fun hB h => ⟨(hB.cell (World.block_lt_of_cell? w4 _ h.1)).trans h.1, (hB.cell (World.block_lt_of_cell? w4 _ h.2.1)).trans h.2.1, (hB.cell (World.block_lt_of_cell? w4 _ h.2.2.1)).trans h.2.2.1, (hB.cell (World.block_lt_of_cell? w4 _ h.2.2.2)).trans h.2.2.2⟩
    refine wp_region_due [0, 1, 2, 3, 4, 5, 6, 7, 8, 9, 10, 11] (fun W => W.cell? ⟨w.heap.size, 0, none⟩ = some (.string ⟨o.toArray⟩) ∧ W.cell? ⟨w.heap.size, 1, none⟩ = some (.slice za n zc) ∧ W.cell? ⟨w3.heap.size, 2, none⟩ = some (.slice (some ⟨b, p, none⟩) (S.length + 1) k2) ∧ W.cell? ⟨b, p, none⟩ = some (.string ⟨xn.toArray⟩)) (by kernel_rfl) ?_
    refine wpDue_take (i := 0) (v := ?_) rfl (by kernel_rfl) (by kernel_rfl) (by kernel_rfl) (by kernel_rfl) (fun _ _ _ h => h) hS1 (.inl ⟨by rfl, ?_⟩) ?_
    rotate_left
    · intro W hW; (try dsimp only at hW); go_simp; try with_reducible rfl
    try simp only [Act.put]
    try simp only [List.setIfInBounds_toArray]
    try simp only [List.set_cons_succ]
    try simp only [List.set_cons_zero]
    refine wpDue_take (i := 1) (v := ?_) rfl (by kernel_rfl) (by kernel_rfl) (by kernel_rfl) (by kernel_rfl) (fun _ _ _ h => h) hS1 (.inl ⟨by rfl, ?_⟩) ?_
    rotate_left
    · intro W hW; (try dsimp only at hW); go_simp; try with_reducible rfl
    try simp only [Act.put]
    try simp only [List.setIfInBounds_toArray]
    try simp only [List.set_cons_succ]
    try simp only [List.set_cons_zero]
    refine wpDue_take (i := 2) (v := ?_) rfl (by kernel_rfl) (by kernel_rfl) (by kernel_rfl) (by kernel_rfl) (fun _ _ _ h => h) hS1 (.inl ⟨by rfl, ?_⟩) ?_
    rotate_left
    · intro W hW; (try dsimp only at hW); go_simp; try with_reducible rfl
    try simp only [Act.put]
    try simp only [List.setIfInBounds_toArray]
    try simp only [List.set_cons_succ]
    try simp only [List.set_cons_zero]
    refine wpDue_take (i := 3) (v := ?_) rfl (by kernel_rfl) (by kernel_rfl) (by kernel_rfl) (by kernel_rfl) (fun _ _ _ h => h) hS1 (.inl ⟨by rfl, ?_⟩) ?_
    rotate_left
    · intro W hW; (try dsimp only at hW); go_simp; try with_reducible rfl
    try simp only [Act.put]
    try simp only [List.setIfInBounds_toArray]
    try simp only [List.set_cons_succ]
    try simp only [List.set_cons_zero]
    refine wpDue_take (i := 4) (v := ?_) rfl (by kernel_rfl) (by kernel_rfl) (by kernel_rfl) (by kernel_rfl) (fun _ _ _ h => h) hS1 (.inl ⟨by rfl, ?_⟩) ?_
    rotate_left
    · intro W hW; (try dsimp only at hW); go_simp; try with_reducible rfl
    try simp only [Act.put]
    try simp only [List.setIfInBounds_toArray]
    try simp only [List.set_cons_succ]
    try simp only [List.set_cons_zero]
    refine wpDue_take (i := 5) (v := ?_) rfl (by kernel_rfl) (by kernel_rfl) (by kernel_rfl) (by kernel_rfl) (fun _ _ _ h => h) hS1 (.inl ⟨by rfl, ?_⟩) ?_
    rotate_left
    · intro W hW; (try dsimp only at hW); go_simp; try with_reducible rfl
    try simp only [Act.put]
    try simp only [List.setIfInBounds_toArray]
    try simp only [List.set_cons_succ]
    try simp only [List.set_cons_zero]
    refine wpDue_two (i := 6) (j := 10) (by kernel_rfl) rfl rfl (fun K hK => ?_) (fun K hK => ?_)
    · have HK := Lib.hid hK
      clear hK
      go_simp
      refine (HA2.out _ HB4.out.drew).mono ?_
      rintro e w5 ⟨v, rfl, hrep, hB5⟩
      obtain ⟨u1, u2, u3, rfl, hr1, hr2, hr3⟩ := hrep.val
      dsimp only at hr1 hr2 hr3 ⊢
      obtain ⟨b1, j1, rfl⟩ := hr1.val
      obtain ⟨b2, j2, rfl⟩ := hr2.val
      obtain ⟨b3, j3, rfl⟩ := hr3.val
      have HR5a := Lib.hid (RowR.recs (B' := w.heap.size) hr1)
      have HR5b := Lib.hid (RowR.recs (B' := w.heap.size) hr2)
      have HR5c := Lib.hid (RowR.recs (B' := w.heap.size) hr3)
      have HB5 := Lib.hid (show Below w4.heap.size w4 w5 from (Below.refl _ w4).drew.trans hB5)
      have hS5 := keep (show Below w4.heap.size w4 w5 from HB5.out) hS1
      clear hrep hr1 hr2 hr3 hB5
      refine HK.out _ _ (fun _ => hS5) ?_
      clear HK K
      try simp only [Act.put]
      try simp only [List.setIfInBounds_toArray]
      try simp only [List.set_cons_succ]
      try simp only [List.set_cons_zero]
      refine wpDue_take (i := 7) (v := ?_) rfl (by kernel_rfl) (by kernel_rfl) (by kernel_rfl) (by kernel_rfl) (fun _ _ _ h => h) hS5 (.inl ⟨by rfl, ?_⟩) ?_
      rotate_left
      · intro W hW; (try dsimp only at hW); go_simp; try with_reducible rfl
      try simp only [Act.put]
      try simp only [List.setIfInBounds_toArray]
      try simp only [List.set_cons_succ]
      try simp only [List.set_cons_zero]
      refine wpDue_take (i := 8) (v := ?_) rfl (by kernel_rfl) (by kernel_rfl) (by kernel_rfl) (by kernel_rfl) (fun _ _ _ h => h) hS5 (.inl ⟨by rfl, ?_⟩) ?_
      rotate_left
      · intro W hW; (try dsimp only at hW); go_simp; try with_reducible rfl
      try simp only [Act.put]
      try simp only [List.setIfInBounds_toArray]
      try simp only [List.set_cons_succ]
      try simp only [List.set_cons_zero]
      refine wpDue_take (i := 9) (v := ?_) rfl (by kernel_rfl) (by kernel_rfl) (by kernel_rfl) (by kernel_rfl) (fun _ _ _ h => h) hS5 (.inl ⟨by rfl, ?_⟩) ?_
      rotate_left
      · intro W hW; (try dsimp only at hW); go_simp; try with_reducible rfl
      try simp only [Act.put]
      try simp only [List.setIfInBounds_toArray]
      try simp only [List.set_cons_succ]
      try simp only [List.set_cons_zero]
      refine wpDue_one (i := 10) (by kernel_rfl) rfl (fun K hK => ?_)
      have HK := Lib.hid hK
      clear hK
      go_simp
      have hS6 := keep ((show Below w4.heap.size w4 w5 from HB5.out).alloc HB5.out.size (.cells #[.int .i64 0, .slice none 0 0, .slice none 0 0, .slice none 0 0, .int .i64 0] 39)) hS1
      refine HK.out _ _ (fun _ => hS6) ?_
      clear HK K
      try simp only [Act.put]
      try simp only [List.setIfInBounds_toArray]
      try simp only [List.set_cons_succ]
      try simp only [List.set_cons_zero]
      refine wpDue_one (i := 11) (by kernel_rfl) rfl (fun K hK => ?_)
      have HK := Lib.hid hK
      clear hK
      go_simp
      have hB7 := (show Below w4.heap.size w4 w5 from HB5.out).alloc HB5.out.size (.cells #[.int .i64 3, .slice b1 L.length j1, .slice b2 (⟨xn, xk, xt, xd⟩ :: S : List Cb.Rec).length j2, .slice b3 G.length j3, .int .i64 ng] 39)
      have hS7 := keep hB7 hS1
      have hBn := (Below.refl _ w5).alloc (Nat.le_refl _) (.cells #[.int .i64 3, .slice b1 L.length j1, .slice b2 (⟨xn, xk, xt, xd⟩ :: S : List Cb.Rec).length j2, .slice b3 G.length j3, .int .i64 ng] 39)
      have hend : RefMid w.heap.size ⟨3, L, ⟨xn, xk, xt, xd⟩ :: S, G, ng⟩ w4 (.pointer (some ⟨w5.heap.size, 0, none⟩)) (.int .i64 0) (w5.alloc (.cells #[.int .i64 3, .slice b1 L.length j1, .slice b2 (⟨xn, xk, xt, xd⟩ :: S : List Cb.Rec).length j2, .slice b3 G.length j3, .int .i64 ng] 39)) :=
        ⟨w5.heap.size, b1, j1, b2, j2, b3, j3, rfl, rfl, blk_new w5 _ _, HR5a.out.later hBn, HR5b.out.later hBn, HR5c.out.later hBn, hB7⟩
      have Hend := Lib.hid hend
      clear hB7 hBn hend
      refine HK.out _ _ (fun _ => hS7) ?_
      clear HK K
      try simp only [Act.put]
      try simp only [List.setIfInBounds_toArray]
      try simp only [List.set_cons_succ]
      try simp only [List.set_cons_zero]
      refine wpDue_one (i := 12) (by kernel_rfl) rfl (fun K hK => ?_)
      have HK := Lib.hid hK
      clear hK
      go_simp
      refine HK.out _ _ (fun h => absurd h (by decide)) ?_
      clear HK K
      try simp only [Act.put]
      try simp only [List.setIfInBounds_toArray]
      try simp only [List.set_cons_succ]
      try simp only [List.set_cons_zero]
      refine wpDue_done (by kernel_rfl) ?_ _
      clear hS1 hS5 hS6 hS7
      go_wp2
      go_meet
      exact Hend.out
    · have HK := Lib.hid hK
      clear hK
      go_simp
      have hBn : Below w4.heap.size w4 (w4.alloc (.cells #[.int .i64 0, .slice none 0 0, .slice none 0 0, .slice none 0 0, .int .i64 0] 39)).drew := ((Below.refl _ w4).alloc (Nat.le_refl _) _).drew
      have hq6 : Blk (w4.alloc (.cells #[.int .i64 0, .slice none 0 0, .slice none 0 0, .slice none 0 0, .int .i64 0] 39)).drew w4.heap.size #[.int .i64 0, .slice none 0 0, .slice none 0 0, .slice none 0 0, .int .i64 0] 39 := blk_new w4 _ _
      generalize (w4.alloc (.cells #[.int .i64 0, .slice none 0 0, .slice none 0 0, .slice none 0 0, .int .i64 0] 39)).drew = w6 at *
      have HBn := Lib.hid hBn
      have Hq6 := Lib.hid hq6
      have hS6 := keep hBn hS1
      clear hBn hq6
      refine HK.out _ _ (fun _ => hS6) ?_
      clear HK K
      try simp only [Act.put]
      try simp only [List.setIfInBounds_toArray]
      try simp only [List.set_cons_succ]
      try simp only [List.set_cons_zero]
      refine wpDue_one (i := 6) (by kernel_rfl) rfl (fun K hK => ?_)
      have HK := Lib.hid hK
      clear hK
      go_simp
      refine (HA2.out _ (HB4.out.trans ((show Below w4.heap.size w4 w6 from HBn.out).mono HB4.out.size))).mono ?_
      rintro e w5 ⟨v, rfl, hrep, hB5⟩
      obtain ⟨u1, u2, u3, rfl, hr1, hr2, hr3⟩ := hrep.val
      dsimp only at hr1 hr2 hr3 ⊢
      obtain ⟨b1, j1, rfl⟩ := hr1.val
      obtain ⟨b2, j2, rfl⟩ := hr2.val
      obtain ⟨b3, j3, rfl⟩ := hr3.val
      have HR5a := Lib.hid (RowR.recs (B' := w.heap.size) hr1)
      have HR5b := Lib.hid (RowR.recs (B' := w.heap.size) hr2)
      have HR5c := Lib.hid (RowR.recs (B' := w.heap.size) hr3)
      have HB5 := Lib.hid (show Below w4.heap.size w4 w5 from (show Below w4.heap.size w4 w6 from HBn.out).trans (hB5.mono (show Below w4.heap.size w4 w6 from HBn.out).size))
      have hS5 := keep (show Below w4.heap.size w4 w5 from HB5.out) hS1
      have hq5 := Hq6.out.later hB5
      have Hq5 := Lib.hid hq5
      have hcq := fun j => hq5.cell j
      have hfq := fun j => hq5.froz j
      have hlq := hq5.lt
      clear hrep hr1 hr2 hr3 hB5 hq5
      refine HK.out _ _ (fun _ => hS5) ?_
      clear HK K
      try simp only [Act.put]
      try simp only [List.setIfInBounds_toArray]
      try simp only [List.set_cons_succ]
      try simp only [List.set_cons_zero]
      refine wpDue_take (i := 7) (v := ?_) rfl (by kernel_rfl) (by kernel_rfl) (by kernel_rfl) (by kernel_rfl) (fun _ _ _ h => h) hS5 (.inl ⟨by rfl, ?_⟩) ?_
      rotate_left
      · intro W hW; (try dsimp only at hW); go_simp; try with_reducible rfl
      try simp only [Act.put]
      try simp only [List.setIfInBounds_toArray]
      try simp only [List.set_cons_succ]
      try simp only [List.set_cons_zero]
      refine wpDue_take (i := 8) (v := ?_) rfl (by kernel_rfl) (by kernel_rfl) (by kernel_rfl) (by kernel_rfl) (fun _ _ _ h => h) hS5 (.inl ⟨by rfl, ?_⟩) ?_
      rotate_left
      · intro W hW; (try dsimp only at hW); go_simp; try with_reducible rfl
      try simp only [Act.put]
      try simp only [List.setIfInBounds_toArray]
      try simp only [List.set_cons_succ]
      try simp only [List.set_cons_zero]
      refine wpDue_take (i := 9) (v := ?_) rfl (by kernel_rfl) (by kernel_rfl) (by kernel_rfl) (by kernel_rfl) (fun _ _ _ h => h) hS5 (.inl ⟨by rfl, ?_⟩) ?_
      rotate_left
      · intro W hW; (try dsimp only at hW); go_simp; try with_reducible rfl
      try simp only [Act.put]
      try simp only [List.setIfInBounds_toArray]
      try simp only [List.set_cons_succ]
      try simp only [List.set_cons_zero]
      refine wpDue_one (i := 11) (by kernel_rfl) rfl (fun K hK => ?_)
      have HK := Lib.hid hK
      clear hK
      go_simp
      have hB7 : Below w4.heap.size w4 (five w5 w4.heap.size (.int .i64 3) (.slice b1 L.length j1) (.slice b2 (⟨xn, xk, xt, xd⟩ :: S : List Cb.Rec).length j2) (.slice b3 G.length j3) (.int .i64 ng)) := five_lo (show Below w4.heap.size w4 w5 from HB5.out) (Nat.le_refl _)
      have hS7 := keep hB7 hS1
      have hend : RefMid w.heap.size ⟨3, L, ⟨xn, xk, xt, xd⟩ :: S, G, ng⟩ w4 (.pointer (some ⟨w4.heap.size, 0, none⟩)) (.int .i64 0) (five w5 w4.heap.size (.int .i64 3) (.slice b1 L.length j1) (.slice b2 (⟨xn, xk, xt, xd⟩ :: S : List Cb.Rec).length j2) (.slice b3 G.length j3) (.int .i64 ng)) :=
        ⟨w4.heap.size, b1, j1, b2, j2, b3, j3, rfl, rfl, five_blk Hq5.out, HR5a.out.fiveQ Hq5.out HB4.out.size, HR5b.out.fiveQ Hq5.out HB4.out.size, HR5c.out.fiveQ Hq5.out HB4.out.size, hB7⟩
      have Hend := Lib.hid hend
      clear hB7 hend hcq hfq
      refine HK.out _ _ (fun _ => hS7) ?_
      clear HK K
      try simp only [Act.put]
      try simp only [List.setIfInBounds_toArray]
      try simp only [List.set_cons_succ]
      try simp only [List.set_cons_zero]
      refine wpDue_one (i := 12) (by kernel_rfl) rfl (fun K hK => ?_)
      have HK := Lib.hid hK
      clear hK
      go_simp
      refine HK.out _ _ (fun h => absurd h (by decide)) ?_
      clear HK K
      try simp only [Act.put]
      try simp only [List.setIfInBounds_toArray]
      try simp only [List.set_cons_succ]
      try simp only [List.set_cons_zero]
      refine wpDue_done (by kernel_rfl) ?_ _
      clear hS1 hS5 hS6 hS7
      go_wp2
      go_meet
      exact Hend.out
  case rest =>
    obtain ⟨b2, a1', k1', a2', k2', a3', k3', rfl, rfl, hblk, hx1, hx2, hx3, hB6⟩ := hcut
    dsimp only at hblk hx1 hx2 hx3
    have HB6 := Lib.hid (HB4.out.trans (hB6.mono HB4.out.size))
    have HSR := Lib.hid (fun W (hW : Below wc.heap.size wc W) => sameReply_any w.heap.size 3 3 ng ng _ _ _ _ _ _ L (⟨xn, xk, xt, xd⟩ :: S) G L (⟨xn, xk, xt, xd⟩ :: S) G W ((HQ1.out.later hB6).later hW) ((HQ2.out.later hB6).later hW) ((HQ3.out.later hB6).later hW) (hx1.later hW) (hx2.later hW) (hx3.later hW))
    unfold SameB at HSR
    have HBK := Lib.hid hblk
    have HB7 := Lib.hid (Hbl.out.later hB6)
    clear hblk hx1 hx2 hx3 hB6 HQ1 HQ2 HQ3
    go_wp2_with fail
    refine (HF.out _ HB6.out).mono ?_
    rintro e w7 ⟨rfl, hB8⟩
    have HB8 := Lib.hid (HB6.out.trans (hB8.mono HB6.out.size))
    have h1 := HBK.out.later hB8
    have h2 := HB7.out.later hB8
    have g1 := fun j => h1.cell j
    have g2 := fun j => h2.cell j
    have HS2 := Lib.hid (HSR.out w7 hB8)
    clear hB8 h1 h2 HSR
    go_wp2_with fail
    refine HS2.out.mono ?_
    rintro e w8 ⟨rfl, hB9⟩
    have HB9 := Lib.hid (HB8.out.trans (hB9.mono HB8.out.size))
    clear hB9
    go_wp2
    go_ret
    exact true_ret (by simp) HB9.out
theorem replyRefer_any (B : Nat) (o : Lb.Bs) (za : Option Addr) (zc : Nat) (l : List Cb.Rec) (s : ByteArray) (kd : Int) (w : World) (henv : EnvZ w) (hr : Recs B w (.slice za l.length zc) l) (hs : ∀ r ∈ l, r.data.length ≤ 1048576) :
    Calls Tryz.prog 6 #[zoneV o za l.length zc, .string s, .int .i64 kd] w (TrueEnd w) := by
  rw [str_is s]
  have hA := fun (n : Lb.Bs) (k : Int) W (hW : Below w.heap.size w W) => answer_any B o za zc l n k W (henv.later hW) (hr.later hW) hs
  by_cases hq : Rn.chk ⟨o, l⟩ s.data.toList kd = 0
  · have e : Rn.answer ⟨o, l⟩ s.data.toList kd = (Rn.body ⟨o, l⟩ s.data.toList kd, 0) := by unfold Rn.answer; rw [if_neg (by simp [hq])]
    have hA0 := hA s.data.toList kd
    rw [e] at hA0
    by_cases hc : (Rn.body ⟨o, l⟩ s.data.toList kd).code = 3
    · obtain ⟨c, x, L, hb, hx, hn, ha⟩ := Rn.refer_law hq hc
      have hA1 := hA c 4
      rw [ha] at hA1
      rw [hb] at hA0
      exact refer_is B o za l.length zc _ kd c _ x L rfl hx hn w henv hA0 hA1
    · exact refer_not o za l.length zc _ kd _ _ (.inr ⟨rfl, hc⟩) w henv hA0
  · have e : Rn.answer ⟨o, l⟩ s.data.toList kd = ({}, Rn.chk ⟨o, l⟩ s.data.toList kd) := by unfold Rn.answer; rw [if_pos hq]
    have hA0 := hA s.data.toList kd
    rw [e] at hA0
    exact refer_not o za l.length zc _ kd _ _ (.inl hq) w henv hA0
end Go.Proofs.YtajllcbjgndcpaaGreatDoor
