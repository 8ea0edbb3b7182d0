/- WALKS: ReplyOwn. -/
import Derived.Test.YtajllcbjgndcpaaGreatDoorY6
namespace Go.Proofs.YtajllcbjgndcpaaGreatDoor
open Go.RowKit Go.Maps

theorem true_ret {w0 w' : World} {b : Bool} (h : b = true) (hB : Below w0.heap.size w0 w') : TrueEnd w0 (.returned (.bool b)) w' := ⟨by rw [h], hB⟩
/-- The codes, and which lists are there. -/
def Forms (R : Rn.Reply) : Prop := (R.code = 1 ∧ R.recs ≠ [] ∧ R.servers = []) ∨ (R.code = 2 ∧ R.recs ≠ [] ∧ R.servers = []) ∨ (R.code = 3 ∧ R.recs = [] ∧ R.servers ≠ []) ∨ (R.code = 4 ∧ R.recs = [] ∧ R.servers = []) ∨ (R.code = 5 ∧ R.recs = [] ∧ R.servers = [])
theorem body_code (z : Zn.Zone) (name : Lb.Bs) (kind : Int) : (Rn.body z name kind).code = 1 ∨ (Rn.body z name kind).code = 2 ∨ (Rn.body z name kind).code = 3 ∨ (Rn.body z name kind).code = 4 ∨ (Rn.body z name kind).code = 5 := by
  unfold Rn.body
  cases hc : Zn.cutF z name with
  | some c => exact .inr (.inr (.inl rfl))
  | none =>
    dsimp only
    split
    · rcases Rn.owned_code z name name kind with e | e | e <;> rw [e] <;> decide
    · split
      · rcases Rn.owned_code z (Rn.wild z name) name kind with e | e | e <;> rw [e] <;> decide
      · exact .inr (.inr (.inr (.inr rfl)))
theorem body_forms (z : Zn.Zone) (name : Lb.Bs) (kind : Int) (hk : kind ≠ 0) : Forms (Rn.body z name kind) := by
  obtain ⟨-, h1, h2⟩ := Rn.own_law z name kind hk
  have n1 : ¬ ((Rn.body z name kind).code = 1 ∨ (Rn.body z name kind).code = 2) → (Rn.body z name kind).recs = [] := fun h => Decidable.of_not_not fun e => h (h1.1 e)
  have n2 : ¬ (Rn.body z name kind).code = 3 → (Rn.body z name kind).servers = [] := fun h => Decidable.of_not_not fun e => h (h2.1 e)
  unfold Forms
  rcases body_code z name kind with e | e | e | e | e
  · exact .inl ⟨e, h1.2 (.inl e), n2 (by omega)⟩
  · exact .inr (.inl ⟨e, h1.2 (.inr e), n2 (by omega)⟩)
  · exact .inr (.inr (.inl ⟨e, n1 (by omega), h2.2 e⟩))
  · exact .inr (.inr (.inr (.inl ⟨e, n1 (by omega), n2 (by omega)⟩)))
  · exact .inr (.inr (.inr (.inr ⟨e, n1 (by omega), n2 (by omega)⟩)))

set_option maxHeartbeats 6400000 in
set_option maxRecDepth 100000 in
theorem own_err (o : Lb.Bs) (za : Option Addr) (n zc : Nat) (nm : Lb.Bs) (kd q : Int) (hq : q ≠ 0) (w : World) (henv : EnvZ w)
    (hA : ∀ W, Below w.heap.size w W → Calls Tryz.prog 22 #[zoneV o za n zc, .string ⟨nm.toArray⟩, .int .i64 kd] W (AnsEnd {} q W)) :
    Calls Tryz.prog 5 #[zoneV o za n zc, .string ⟨nm.toArray⟩, .int .i64 kd] w (TrueEnd w) := by
  have HA := Lib.hid hA
  have HF := Lib.hid (fun W (hW : Below w.heap.size w W) => replyFact_any W (henv.later hW))
  unfold AnsEnd zoneV at HA
  unfold TrueEnd at HF
  unfold zoneV
  have HB := Lib.hid ((Below.refl _ w).alloc (Nat.le_refl _) (.cells #[.string ⟨o.toArray⟩, .slice za n zc] 24))
  have Hb1 := Lib.hid (blk_new w #[.string ⟨o.toArray⟩, .slice za n zc] 24)
  have hqb : (q == 0) = false := beq_eq_false_iff_ne.2 hq
  have hqb2 : (q != 0) = true := by rw [bne, hqb]; rfl
  clear hA hq henv
  go_enter Tryz.func5, Tryz.ntmps5
  go_wp2_with fail
  generalize w.alloc (.cells #[.string ⟨o.toArray⟩, .slice za n zc] 24) = w2 at *
  refine (HA.out _ HB.out).mono ?_
  rintro e w3 ⟨v, rfl, hrep, hB3⟩
  have HB3 := Lib.hid (HB.out.trans (hB3.mono HB.out.size))
  obtain ⟨v1, v2, v3, rfl, hr1, hr2, hr3⟩ := hrep.val
  obtain ⟨a1, k1, rfl⟩ := hr1.val
  obtain ⟨a2, k2, rfl⟩ := hr2.val
  obtain ⟨a3, k3, rfl⟩ := hr3.val
  clear hrep hr1 hr2 hr3 hB3
  dsimp only [List.length_nil]
  have hBa := (HB3.out.alloc HB3.out.size (.cells #[.int .i64 0, .slice a1 0 k1, .slice a2 0 k2, .slice a3 0 k3, .int .i64 0] 39))
  have HBa := Lib.hid hBa
  have Hbl := Lib.hid (blk_new w3 #[.int .i64 0, .slice a1 0 k1, .slice a2 0 k2, .slice a3 0 k3, .int .i64 0] 39)
  clear hBa
  go_wp2_with fail
  refine (HF.out _ HBa.out).mono ?_
  rintro e w4 ⟨rfl, hB4⟩
  have HB4 := Lib.hid (HBa.out.trans (hB4.mono HBa.out.size))
  have hc := fun j => (Hbl.out.later hB4).cell j
  clear hB4
  go_wp2
  go_ret
  exact true_ret (by simp) HB4.out

def OwnInv (w0 : World) (wr : World) : Prop := Below w0.heap.size w0 wr
set_option maxHeartbeats 6400000 in
set_option maxRecDepth 100000 in
theorem own_ok (o : Lb.Bs) (za : Option Addr) (n zc : Nat) (nm : Lb.Bs) (kd : Int) (R : Rn.Reply) (hR : Forms R) (hrec : ∀ x ∈ R.recs, x.name = nm ∧ (x.kind = kd ∨ R.code = 2 ∧ x.kind = 2)) (w : World) (henv : EnvZ w)
    (hA : ∀ W, Below w.heap.size w W → Calls Tryz.prog 22 #[zoneV o za n zc, .string ⟨nm.toArray⟩, .int .i64 kd] W (AnsEnd R 0 W)) :
    Calls Tryz.prog 5 #[zoneV o za n zc, .string ⟨nm.toArray⟩, .int .i64 kd] w (TrueEnd w) := by
  have HA := Lib.hid hA
  have HF := Lib.hid (fun W (hW : Below w.heap.size w W) => replyFact_any W (henv.later hW))
  unfold AnsEnd zoneV at HA
  unfold TrueEnd at HF
  unfold zoneV
  have HB := Lib.hid ((Below.refl _ w).alloc (Nat.le_refl _) (.cells #[.string ⟨o.toArray⟩, .slice za n zc] 24))
  obtain ⟨c, L, S, G, ng⟩ := R
  have Hrec := Lib.hid hrec
  clear hA henv hrec
  dsimp only at *
  have hforms : ∃ (n1 n2 : Nat), L.length = n1 ∧ S.length = n2 ∧ ((c = 1 ∧ 0 < n1 ∧ n2 = 0) ∨ (c = 2 ∧ 0 < n1 ∧ n2 = 0) ∨ (c = 3 ∧ n1 = 0 ∧ 0 < n2) ∨ (c = 4 ∧ n1 = 0 ∧ n2 = 0) ∨ (c = 5 ∧ n1 = 0 ∧ n2 = 0)) := by
    refine ⟨_, _, rfl, rfl, ?_⟩
    unfold Forms at hR
    dsimp only at hR
    rcases hR with ⟨h1, h2, h3⟩ | ⟨h1, h2, h3⟩ | ⟨h1, h2, h3⟩ | ⟨h1, h2, h3⟩ | ⟨h1, h2, h3⟩
    · exact .inl ⟨h1, List.length_pos_iff.2 h2, by rw [h3]; rfl⟩
    · exact .inr (.inl ⟨h1, List.length_pos_iff.2 h2, by rw [h3]; rfl⟩)
    · exact .inr (.inr (.inl ⟨h1, by rw [h2]; rfl, List.length_pos_iff.2 h3⟩))
    · exact .inr (.inr (.inr (.inl ⟨h1, by rw [h2]; rfl, by rw [h3]; rfl⟩)))
    · exact .inr (.inr (.inr (.inr ⟨h1, by rw [h2]; rfl, by rw [h3]; rfl⟩)))
  obtain ⟨n1, n2, hn1, hn2, hforms⟩ := hforms
  have HN1 := Lib.hid hn1
  have HN2 := Lib.hid hn2
  clear hR hn1 hn2
  have hend : (decide ((0 : Int) < (n1 : Int)) == (decide (c = 1) || decide (c = 2))) = true ∧ (decide ((0 : Int) < (n2 : Int)) == decide (c = 3)) = true := by
    rcases hforms with ⟨rfl, h1, h2⟩ | ⟨rfl, h1, h2⟩ | ⟨rfl, h1, h2⟩ | ⟨rfl, h1, h2⟩ | ⟨rfl, h1, h2⟩ <;> constructor <;> simp <;> omega
  have Hend := Lib.hid hend
  have Hf := Lib.hid hforms
  clear hend hforms
  go_enter Tryz.func5, Tryz.ntmps5
  go_wp2_with fail
  generalize w.alloc (.cells #[.string ⟨o.toArray⟩, .slice za n zc] 24) = w2 at *
  refine (HA.out _ HB.out).mono ?_
  rintro e w3 ⟨v, rfl, hrep, hB3⟩
  have HB3 := Lib.hid (HB.out.trans (hB3.mono HB.out.size))
  obtain ⟨v1, v2, v3, rfl, hr1, hr2, hr3⟩ := hrep.val
  dsimp only at hr1 hr2 hr3 ⊢
  obtain ⟨a1, k1, rfl⟩ := hr1.val
  obtain ⟨a2, k2, rfl⟩ := hr2.val
  obtain ⟨a3, k3, rfl⟩ := hr3.val
  have HR1 := Lib.hid (RowR.recs (B' := w.heap.size) hr1)
  rw [HN1.out] at HR1 ⊢
  rw [HN2.out]
  generalize G.length = n3 at *
  clear hrep hr1 hr2 hr3 hB3 HA
  have HBa := Lib.hid (HB3.out.alloc HB3.out.size (.cells #[.int .i64 c, .slice a1 n1 k1, .slice a2 n2 k2, .slice a3 n3 k3, .int .i64 ng] 39))
  have Hbl := Lib.hid (blk_new w3 #[.int .i64 c, .slice a1 n1 k1, .slice a2 n2 k2, .slice a3 n3 k3, .int .i64 ng] 39)
  have HR2 := Lib.hid (HR1.out.later ((Below.refl _ w3).alloc (Nat.le_refl _) (.cells #[.int .i64 c, .slice a1 n1 k1, .slice a2 n2 k2, .slice a3 n3 k3, .int .i64 ng] 39)))
  have hn1s : n1 ≤ 9223372036854775807 := by have := (recs_cap (HN1.out ▸ HR1.out : Recs w.heap.size w3 (.slice a1 L.length k1) L)).2; have h2 := HN1.out; unfold maxLen at this; omega
  clear HR1
  go_wp2
  generalize w3.alloc (.cells #[.int .i64 c, .slice a1 n1 k1, .slice a2 n2 k2, .slice a3 n3 k3, .int .i64 ng] 39) = w4 at *
  go_loopw [29] (fun kv wr => ∃ (k : Nat), k ≤ n1 ∧ kv = .int .i64 k ∧ Hid (OwnInv w4 wr)) (fun kv _ => n1 - (intOf kv).toNat)
  case atStart => exact ⟨0, Nat.zero_le _, rfl, Below.refl _ _⟩
  case round =>
    obtain ⟨k, hk, rfl, HI⟩ := hrel
    have hI : Below w4.heap.size w4 wr := HI.out
    have hbl := Hbl.out.later hI
    have hcq := fun j => hbl.cell j
    have hql := hbl.lt
    have HBt := Lib.hid (HBa.out.trans (hI.mono HBa.out.size))
    by_cases hlt : k < n1
    · obtain ⟨x, hx⟩ : ∃ x, L[k]? = some x := ⟨L[k]'(by rw [HN1.out]; exact hlt), List.getElem?_eq_getElem _⟩
      obtain ⟨b, p, rfl, hb, c0, c1, c2, c3⟩ := recs_at (HN1.out ▸ (HR2.out.later hI) : Recs w.heap.size wr (.slice a1 L.length k1) L) hx
      have hi0 : (0 : Int) ≤ (k : Int) := by omega
      have hi1 : (k : Int) < (n1 : Int) := by omega
      obtain ⟨e1, e2⟩ := Hrec.out x (List.mem_of_getElem? hx)
      clear hx
      obtain ⟨xn, xk, xt, xd⟩ := x
      dsimp only at *
      subst e1
      have HBn := Lib.hid (hI.alloc hI.size (.cells #[.string ⟨xn.toArray⟩, .int .i64 xk, .int .i64 xt, .string ⟨xd.toArray⟩] 43))
      have hcases : (xk != kd) = false ∨ ((xk != kd) = true ∧ (c == 2) = true ∧ (xk == 2) = true) := by
        rcases e2 with e2 | ⟨e2, e3⟩
        · exact .inl (by rw [bne, e2]; simp)
        · by_cases e : xk = kd
          · exact .inl (by rw [bne, e]; simp)
          · exact .inr ⟨by rw [bne, beq_eq_false_iff_ne.2 e]; rfl, by rw [beq_iff_eq]; exact e2, by rw [beq_iff_eq]; exact e3⟩
      clear e2 hbl hI
      rcases hcases with h1 | ⟨h1, h2, h3⟩
      all_goals
        go_wp2
        refine ⟨⟨k + 1, by omega, by go_num, HBn.out⟩, by simp [intOf]; omega⟩
    · obtain rfl : k = n1 := by omega
      clear hbl hI
      have hf := Hf.out
      clear Hend Hf
      rcases hf with ⟨rfl, h1, rfl⟩ | ⟨rfl, h1, rfl⟩ | ⟨rfl, h0, h1⟩ | ⟨rfl, h0, rfl⟩ | ⟨rfl, h0, rfl⟩
      all_goals
        have HHs := True.intro
        try have h1' : (0 : Int) < (k : Int) := by omega
        try have h2' : (0 : Int) < (n2 : Int) := by omega
        try (subst h0)
        go_wp2_with fail
        refine (HF.out _ HBt.out).mono ?_
        rintro e w5 ⟨rfl, hB5⟩
        have HB5 := Lib.hid (HBt.out.trans (hB5.mono HBt.out.size))
        have hbl5 := (Hbl.out.later HI.out).later hB5
        have hcq5 := fun j => hbl5.cell j
        clear hB5 hbl5 hcq
        go_wp2
        go_ret
        exact true_ret (by simp) HB5.out

theorem str_is (s : ByteArray) : s = ⟨s.data.toList.toArray⟩ := by simp
theorem replyOwn_any (B : Nat) (o : Lb.Bs) (za : Option Addr) (zc : Nat) (l : List Cb.Rec) (s : ByteArray) (kd : Int) (w : World) (henv : EnvZ w) (hr : Recs B w (.slice za l.length zc) l) (hs : ∀ r ∈ l, r.data.length ≤ 1048576) :
    Calls Tryz.prog 5 #[zoneV o za l.length zc, .string s, .int .i64 kd] w (TrueEnd w) := by
  rw [str_is s]
  have hA := fun W (hW : Below w.heap.size w W) => answer_any B o za zc l s.data.toList kd W (henv.later hW) (hr.later hW) hs
  by_cases hq : Rn.chk ⟨o, l⟩ s.data.toList kd = 0
  · have e : Rn.answer ⟨o, l⟩ s.data.toList kd = (Rn.body ⟨o, l⟩ s.data.toList kd, 0) := by unfold Rn.answer; rw [if_neg (by simp [hq])]
    rw [e] at hA
    have hk := Rn.chk_ok hq
    have hk0 : kd ≠ 0 := by have := hk.kind; omega
    exact own_ok o za l.length zc _ kd _ (body_forms _ _ _ hk0) (Rn.own_law _ _ _ hk0).1 w henv hA
  · have e : Rn.answer ⟨o, l⟩ s.data.toList kd = ({}, Rn.chk ⟨o, l⟩ s.data.toList kd) := by unfold Rn.answer; rw [if_pos hq]
    rw [e] at hA
    exact own_err o za l.length zc _ kd _ hq w henv hA
end Go.Proofs.YtajllcbjgndcpaaGreatDoor
