/- WALKS: life, the test of the records' times, clone. -/
import Derived.Test.YtajllcbjgndcpaaGreatDoorK7
import Derived.Deep.RegionHeld3
namespace Go.Proofs.YtajllcbjgndcpaaGreatDoor
open Go.RowKit Go.Maps

/-- An answer with its slices. -/
structure RP where
  p : Cb.Rp
  ra : Option Addr
  rc : Nat
  sa : Option Addr
  sc : Nat
  ga : Option Addr
  gc : Nat
def rpV (x : RP) : List Value := [.int .i64 x.p.code, .slice x.ra x.p.recs.length x.rc, .slice x.sa x.p.ns x.sc, .slice x.ga x.p.ng x.gc, .int .i64 x.p.neg]
structure ROk (B : Nat) (w : World) (x : RP) : Prop where
  r : Recs B w (.slice x.ra x.p.recs.length x.rc) x.p.recs
  s : x.p.ns ≤ x.sc ∧ x.sc ≤ maxLen
  g : x.p.ng ≤ x.gc ∧ x.gc ≤ maxLen
theorem recs_at {B : Nat} {w : World} {a : Option Addr} {n cap : Nat} {l : List Cb.Rec} (h : Recs B w (.slice a n cap) l) {k : Nat} {x : Cb.Rec} (hx : l[k]? = some x) :
    ∃ b o, a = some ⟨b, o, none⟩ ∧ b < w.heap.size ∧ w.cell? ⟨b, o + k * 4, none⟩ = some (.string ⟨x.name.toArray⟩) ∧ w.cell? ⟨b, o + k * 4 + 1, none⟩ = some (.int .i64 x.kind) ∧ w.cell? ⟨b, o + k * 4 + 2, none⟩ = some (.int .i64 x.ttl) ∧ w.cell? ⟨b, o + k * 4 + 3, none⟩ = some (.string ⟨x.data.toArray⟩) := by
  obtain ⟨a', cap', hv, _, _, hc⟩ := h
  injection hv with e1 e2 e3
  subst e1 e3
  obtain ⟨b, o, h1, h2, _, h4⟩ := hc (by rintro rfl; simp at hx)
  exact ⟨b, o, h1, h2, h4 k x hx 0 _ rfl, h4 k x hx 1 _ rfl, h4 k x hx 2 _ rfl, h4 k x hx 3 _ rfl⟩
theorem recs_cap {B : Nat} {w : World} {a : Option Addr} {n cap : Nat} {l : List Cb.Rec} (h : Recs B w (.slice a n cap) l) : n = l.length ∧ n ≤ cap ∧ cap ≤ maxLen := by
  obtain ⟨a', cap', hv, h1, h2, _⟩ := h
  injection hv with e1 e2 e3
  subst e3
  exact ⟨e2, e2 ▸ h1, h2⟩
theorem least_snoc (n : Int) (l : List Cb.Rec) (k : Nat) (x : Cb.Rec) (hx : l[k]? = some x) : Cb.least n (l.take (k + 1)) = min (Cb.least n (l.take k)) x.ttl := by
  rw [List.take_add_one, hx]; simp [Cb.least]

set_option maxHeartbeats 1600000 in
theorem life_any (B : Nat) (x : RP) (w : World) (h : ROk B w x) :
    Calls Tryz.prog 116 #[.agg (rpV x).toArray] w fun e w' => e = .returned (.int .i64 (Cb.life x.p)) ∧ Below w.heap.size w w' := by
  obtain ⟨⟨code, recs, ns, ng, neg⟩, ra, rc, sa, sc, ga, gc⟩ := x
  have hr := h.r
  clear h
  unfold rpV Cb.life
  simp only at hr ⊢
  by_cases h45 : code = 4 ∨ code = 5
  · rw [if_pos h45]
    have h4 : (code == 4) = true ∨ (code == 4) = false ∧ (code == 5) = true := by
      rcases h45 with rfl | rfl
      · exact .inl rfl
      · exact .inr ⟨rfl, rfl⟩
    rcases h4 with h4 | ⟨h4, h5⟩
    all_goals
      go_enter Tryz.func116, Tryz.ntmps116
      go_wp2
      go_ret
      exact ⟨rfl, (Below.refl _ w).alloc (Nat.le_refl _) _⟩
  · rw [if_neg h45]
    have h4 : (code == 4) = false := by rw [beq_eq_false_iff_ne]; omega
    have h5 : (code == 5) = false := by rw [beq_eq_false_iff_ne]; omega
    have hc := (recs_cap hr).2
    have hcm := hc.2
    have hcc := hc.1
    unfold maxLen at hcm
    have Hr := Lib.hid hr
    clear hr h45 hc
    go_enter Tryz.func116, Tryz.ntmps116
    go_wp2
    go_loopw [3, 19] (fun m i wr => ∃ k : Nat, k ≤ recs.length ∧ i = .int .i64 k ∧ m = .int .i64 (Cb.least 1000000 (recs.take k)) ∧ Below w.heap.size w wr) (fun _ i _ => recs.length - (intOf i).toNat)
    case atStart => exact ⟨0, Nat.zero_le _, rfl, rfl, (Below.refl _ w).alloc (Nat.le_refl _) _⟩
    case round =>
      obtain ⟨k, hk, rfl, rfl, hB⟩ := hrel
      by_cases hlt : k < recs.length
      · obtain ⟨x, hx⟩ : ∃ x, recs[k]? = some x := ⟨recs[k], List.getElem?_eq_getElem hlt⟩
        obtain ⟨b, o, rfl, hb, c0, c1, c2, c3⟩ := recs_at (Hr.out.later hB) hx
        have hl := least_snoc 1000000 recs k x hx
        have Hl := Lib.hid hl
        have hk0 : (0 : Int) ≤ k := by omega
        have hlt' : (k : Int) < recs.length := by omega
        have hB2 := hB.alloc (o := .cells #[.string ⟨x.name.toArray⟩, .int .i64 x.kind, .int .i64 x.ttl, .string ⟨x.data.toArray⟩] 43) hB.size
        clear hl hx
        generalize Cb.least 1000000 (recs.take k) = m at *
        go_wp2
        exact ⟨⟨k + 1, by omega, by go_num, by rw [Hl.out], hB2⟩, by simp [intOf]; omega⟩
      · have hke : k = recs.length := by omega
        subst hke
        rw [List.take_length]
        go_wp2
        go_ret
        exact ⟨rfl, hB⟩

def idxR (l : List Cb.Rec) : Int := match l.findIdx? Cb.badT with | some k => (k : Int) | none => -1
theorem idxR_hit {l : List Cb.Rec} {k : Nat} {x : Cb.Rec} (hx : l[k]? = some x) (hp : Cb.badT x = true) (h : ∀ j y, j < k → l[j]? = some y → Cb.badT y = false) : idxR l = k := by
  unfold idxR
  have : l.findIdx? Cb.badT = some k := by
    rw [List.findIdx?_eq_some_iff_getElem]
    obtain ⟨hk, rfl⟩ := List.getElem?_eq_some_iff.1 hx
    exact ⟨hk, hp, fun j hj => by simp [h j (l[j]'(by omega)) hj (List.getElem?_eq_getElem _)]⟩
  rw [this]
theorem idxR_miss {l : List Cb.Rec} (h : ∀ j y, j < l.length → l[j]? = some y → Cb.badT y = false) : idxR l = -1 := by
  unfold idxR
  have : l.findIdx? Cb.badT = none := by
    rw [List.findIdx?_eq_none_iff]
    intro x hx
    obtain ⟨j, hj⟩ := List.mem_iff_getElem?.1 hx
    exact h j x (List.getElem?_eq_some_iff.1 hj).1 hj
  rw [this]
theorem idxR_any (l : List Cb.Rec) : decide (0 ≤ idxR l) = l.any Cb.badT := by
  unfold idxR
  cases h : l.findIdx? Cb.badT with
  | none =>
    rw [List.findIdx?_eq_none_iff] at h
    have : l.any Cb.badT = false := by rw [List.any_eq_false]; intro x hx; simp [h x hx]
    rw [this]; rfl
  | some k =>
    rw [List.findIdx?_eq_some_iff_getElem] at h
    obtain ⟨hk, hp, _⟩ := h
    have : l.any Cb.badT = true := List.any_eq_true.2 ⟨_, List.getElem_mem hk, hp⟩
    rw [this]; simp

set_option maxHeartbeats 1600000 in
theorem indexR_any (B : Nat) (a : Option Addr) (cp : Nat) (l : List Cb.Rec) (w : World) (h : Recs B w (.slice a l.length cp) l) :
    Calls Tryz.prog 148 #[.slice a l.length cp, .func (.func 118) #[] #[]] w fun e w' => e = .returned (.int .i64 (idxR l)) ∧ Below w.heap.size w w' := by
  have hc := (recs_cap h).2
  have hcm := hc.2
  have hcc := hc.1
  unfold maxLen at hcm
  have Hr := Lib.hid h
  have enters := enters30
  clear h hc
  go_enter Tryz.func148, Tryz.ntmps148
  go_wp2
  go_loopw [8] (fun i wr => ∃ k : Nat, k ≤ l.length ∧ i = .int .i64 k ∧ Hid (∀ j y, j < k → l[j]? = some y → Cb.badT y = false) ∧ Below w.heap.size w wr) (fun i _ => l.length - (intOf i).toNat)
  case atStart => exact ⟨0, Nat.zero_le _, rfl, fun j _ hj => absurd hj (Nat.not_lt_zero j), Below.refl _ _⟩
  case round =>
    obtain ⟨k, hk, rfl, hno, hB⟩ := hrel
    by_cases hlt : k < l.length
    · obtain ⟨x, hx⟩ : ∃ x, l[k]? = some x := ⟨l[k], List.getElem?_eq_getElem hlt⟩
      obtain ⟨b, o, rfl, hb, c0, c1, c2, c3⟩ := recs_at (Hr.out.later hB) hx
      have hcall := put1_any x wr
      have Hx := Lib.hid hx
      have hk0 : (0 : Int) ≤ k := by omega
      have hlt' : (k : Int) < l.length := by omega
      clear hx
      cases hp : Cb.badT x with
      | true =>
        rw [hp] at hcall
        have hcall := Lib.hid hcall
        go_wp2_with (go_at_fn 118; refine hcall.out.mono ?_; rintro e w' ⟨rfl, hb'⟩)
        go_ret
        exact ⟨by rw [idxR_hit Hx.out hp hno]; rfl, hB.trans (hb'.mono hB.size)⟩
      | false =>
        rw [hp] at hcall
        have hcall := Lib.hid hcall
        go_wp2_with (go_at_fn 118; refine hcall.out.mono ?_; rintro e w' ⟨rfl, hb'⟩)
        refine ⟨⟨k + 1, by omega, by go_num, (show Hid _ from fun j y hj hy => ?_), hB.trans (hb'.mono hB.size)⟩, by simp [intOf]; omega⟩
        rcases Nat.lt_or_ge j k with h1 | h1
        · exact hno j y h1 hy
        · obtain rfl : j = k := by omega
          rw [Hx.out] at hy
          injection hy with hy
          rw [← hy]; exact hp
    · have hke : k = l.length := by omega
      subst hke
      go_wp2
      go_ret
      exact ⟨by rw [idxR_miss hno]; rfl, hB⟩

theorem contains_any (B : Nat) (a : Option Addr) (cp : Nat) (l : List Cb.Rec) (w : World) (h : Recs B w (.slice a l.length cp) l) :
    Calls Tryz.prog 117 #[.slice a l.length cp, .func (.func 118) #[] #[]] w fun e w' => e = .returned (.bool (l.any Cb.badT)) ∧ Below w.heap.size w w' := by
  have HI := Lib.hid (indexR_any B a cp l w h)
  have Ha := Lib.hid (idxR_any l)
  clear h
  generalize idxR l = q at *
  go_enter Tryz.func117, Tryz.ntmps117
  go_wp2_with fail
  refine HI.out.mono ?_
  rintro e w1 ⟨rfl, hB⟩
  go_wp2
  go_ret
  exact ⟨by rw [← Ha.out]; rfl, hB⟩
end Go.Proofs.YtajllcbjgndcpaaGreatDoor
